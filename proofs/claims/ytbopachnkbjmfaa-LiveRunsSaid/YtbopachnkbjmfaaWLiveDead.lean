/- The call LiveDead answers true at any net, mark and sequence that read as data; nothing that lay there turns. -/
import Derived.Test.YtbopachnkbjmfaaAlive7
import Derived.Test.YtbopachnkbjmfaaPB
import Derived.Test.YtbopachnkbjmfaaGU
import Derived.Test.YtbopachnkbjmfaaPA
import Derived.Test.YtbopachnkbjmfaaGR
namespace Go.Proofs.Ytbopachnkbjmfaa
open Go.RowKit Go.Tok
set_option linter.unusedVariables false
set_option maxHeartbeats 8000000 in
set_option maxRecDepth 100000 in
theorem LiveDead_walk {v u z : Value} {N : NetD} {m seq : List Int} (w : World) (hN : NetR w v N) (hm0 : Ints w u m ∧ m.length ≤ 17592186043904) (hs0 : Ints w z seq ∧ seq.length ≤ 17592186043904) :
    Calls Try.prog 13 #[v, u, z] w fun e w' => e = .returned (.bool true) ∧ Gr w w' := by
  obtain ⟨hm, _⟩ := hm0
  obtain ⟨hs, _⟩ := hs0
  have hN' := hN
  have hlim : I64 300 := by decide
  obtain ⟨a, cap, rfl, hnl, hncap, hpl, hT⟩ := hN.open_
  have hpl1 := hpl.1
  have hpl2 := hpl.2
  rcases ha : graphF N m 300 with ⟨A, e⟩
  have HA := Lib.hid ha
  rcases hr : runF N m seq with ⟨x, f⟩
  have HR := Lib.hid hr
  by_cases he : e = 0
  case neg =>
    have q1 : (e != 0) = true := by simpa using he
    clear ha hr he
    go_enter Try.func13, Try.ntmps13
    go_wp2_with fail
    refine (alive7_calls _).mono ?_
    rintro _ w1 ⟨rfl, g1⟩
    have B0 := box_cell g1 (i := 0) rfl
    have B1 := box_cell g1 (i := 1) rfl
    have GW : Gr w w1 := ((Gr.refl w).alloc _).trans g1
    go_wp2_with fail
    refine (Graph_calls _ _ N m 300 _ (hN'.gr GW) (hm.gr GW) hlim).mono ?_
    rw [HA.out]; rintro _ w2 ⟨v2, rfl, i2, g2⟩
    obtain ⟨ma, mc, aa, ac, rfl, hc1, hc2, hc3, hc4, _, _⟩ := i2.open_
    have GS : Gr w2 (w2.alloc (.cells #[.slice ma A.marks.length mc, .slice aa A.arcs.length ac] 76)) := (Gr.refl _).alloc _
    have S0 : (w2.alloc (.cells #[.slice ma A.marks.length mc, .slice aa A.arcs.length ac] 76)).cell? ⟨w2.heap.size, 0, none⟩ = some (.slice ma A.marks.length mc) := box_cell (Gr.refl _) (i := 0) rfl
    have S1 : (w2.alloc (.cells #[.slice ma A.marks.length mc, .slice aa A.arcs.length ac] 76)).cell? ⟨w2.heap.size, 1, none⟩ = some (.slice aa A.arcs.length ac) := box_cell (Gr.refl _) (i := 1) rfl
    replace B0 := cell_gr (cell_gr B0 g2) GS
    replace B1 := cell_gr (cell_gr B1 g2) GS
    replace GW := (GW.trans g2).trans GS
    have hS := i2.gr GS
    clear g1 g2 GS i2
    go_wp2_with fail
    generalize w2.alloc (.cells #[.slice ma A.marks.length mc, .slice aa A.arcs.length ac] 76) = w3 at S0 S1 B0 B1 GW hS ⊢
    generalize w2.heap.size = sb at S0 S1 ⊢
    refine (Run_own _ _ _ N m seq _ (hN'.gr GW) (hm.gr GW) (hs.gr GW)).mono ?_
    rw [HR.out]; rintro _ w4 ⟨v4, rfl, o4, g4⟩
    have i4 := o4.ints
    replace S0 := cell_gr S0 g4
    replace S1 := cell_gr S1 g4
    replace B0 := cell_gr B0 g4
    replace B1 := cell_gr B1 g4
    replace GW := GW.trans g4
    replace hS := hS.gr g4
    clear g4 o4
    go_wp2_with fail
    go_ret
    exact ⟨rfl, GW⟩
  case pos =>
    subst he
    by_cases hf : f = 0
    case neg =>
      have q1 : (f != 0) = true := by simpa using hf
      clear ha hr hf
      go_enter Try.func13, Try.ntmps13
      go_wp2_with fail
      refine (alive7_calls _).mono ?_
      rintro _ w1 ⟨rfl, g1⟩
      have B0 := box_cell g1 (i := 0) rfl
      have B1 := box_cell g1 (i := 1) rfl
      have GW : Gr w w1 := ((Gr.refl w).alloc _).trans g1
      go_wp2_with fail
      refine (Graph_calls _ _ N m 300 _ (hN'.gr GW) (hm.gr GW) hlim).mono ?_
      rw [HA.out]; rintro _ w2 ⟨v2, rfl, i2, g2⟩
      obtain ⟨ma, mc, aa, ac, rfl, hc1, hc2, hc3, hc4, _, _⟩ := i2.open_
      have GS : Gr w2 (w2.alloc (.cells #[.slice ma A.marks.length mc, .slice aa A.arcs.length ac] 76)) := (Gr.refl _).alloc _
      have S0 : (w2.alloc (.cells #[.slice ma A.marks.length mc, .slice aa A.arcs.length ac] 76)).cell? ⟨w2.heap.size, 0, none⟩ = some (.slice ma A.marks.length mc) := box_cell (Gr.refl _) (i := 0) rfl
      have S1 : (w2.alloc (.cells #[.slice ma A.marks.length mc, .slice aa A.arcs.length ac] 76)).cell? ⟨w2.heap.size, 1, none⟩ = some (.slice aa A.arcs.length ac) := box_cell (Gr.refl _) (i := 1) rfl
      replace B0 := cell_gr (cell_gr B0 g2) GS
      replace B1 := cell_gr (cell_gr B1 g2) GS
      replace GW := (GW.trans g2).trans GS
      have hS := i2.gr GS
      clear g1 g2 GS i2
      go_wp2_with fail
      generalize w2.alloc (.cells #[.slice ma A.marks.length mc, .slice aa A.arcs.length ac] 76) = w3 at S0 S1 B0 B1 GW hS ⊢
      generalize w2.heap.size = sb at S0 S1 ⊢
      refine (Run_own _ _ _ N m seq _ (hN'.gr GW) (hm.gr GW) (hs.gr GW)).mono ?_
      rw [HR.out]; rintro _ w4 ⟨v4, rfl, o4, g4⟩
      have i4 := o4.ints
      replace S0 := cell_gr S0 g4
      replace S1 := cell_gr S1 g4
      replace B0 := cell_gr B0 g4
      replace B1 := cell_gr B1 g4
      replace GW := GW.trans g4
      replace hS := hS.gr g4
      clear g4 o4
      go_wp2_with fail
      go_ret
      exact ⟨rfl, GW⟩
    case pos =>
      subst hf
      obtain ⟨hd1, hd2, hml, hal, hn24, hC64⟩ : (∀ t ∈ seq, t ∉ deadF A (N.trans.length : Int)) ∧ (∀ t ∈ deadF A (N.trans.length : Int), t ∉ liveF A (N.trans.length : Int)) ∧ A.marks.length ≤ 5864062014805 ∧ A.arcs.length ≤ 5864062014805 ∧ N.trans.length ≤ 24 ∧ I64 (N.trans.length : Int) := by
        obtain ⟨s, h1, rfl, h2, h3, h4, hW⟩ := search_of_graph ha
        have h5 := (fits_sizes h4).1
        exact ⟨fun t ht => dead_not hW hr ht, fun t ht => dead_live hW ht, by have := hW.le; simp only []; omega, by have := search_arcs h1; simp only []; omega, h5, i64_nat (by omega)⟩
      have HD1 := Lib.hid hd1
      have HD2 := Lib.hid hd2
      clear ha hr hd1 hd2
      have hsl := hs.len
      obtain ⟨za, zc, rfl, hzl, hzc⟩ := hsl
      go_enter Try.func13, Try.ntmps13
      go_wp2_with fail
      refine (alive7_calls _).mono ?_
      rintro _ w1 ⟨rfl, g1⟩
      have B0 := box_cell g1 (i := 0) rfl
      have B1 := box_cell g1 (i := 1) rfl
      have GW : Gr w w1 := ((Gr.refl w).alloc _).trans g1
      go_wp2_with fail
      refine (Graph_calls _ _ N m 300 _ (hN'.gr GW) (hm.gr GW) hlim).mono ?_
      rw [HA.out]; rintro _ w2 ⟨v2, rfl, i2, g2⟩
      obtain ⟨ma, mc, aa, ac, rfl, hc1, hc2, hc3, hc4, _, _⟩ := i2.open_
      have GS : Gr w2 (w2.alloc (.cells #[.slice ma A.marks.length mc, .slice aa A.arcs.length ac] 76)) := (Gr.refl _).alloc _
      have S0 : (w2.alloc (.cells #[.slice ma A.marks.length mc, .slice aa A.arcs.length ac] 76)).cell? ⟨w2.heap.size, 0, none⟩ = some (.slice ma A.marks.length mc) := box_cell (Gr.refl _) (i := 0) rfl
      have S1 : (w2.alloc (.cells #[.slice ma A.marks.length mc, .slice aa A.arcs.length ac] 76)).cell? ⟨w2.heap.size, 1, none⟩ = some (.slice aa A.arcs.length ac) := box_cell (Gr.refl _) (i := 1) rfl
      replace B0 := cell_gr (cell_gr B0 g2) GS
      replace B1 := cell_gr (cell_gr B1 g2) GS
      replace GW := (GW.trans g2).trans GS
      have hS := i2.gr GS
      clear g1 g2 GS i2
      go_wp2_with fail
      generalize w2.alloc (.cells #[.slice ma A.marks.length mc, .slice aa A.arcs.length ac] 76) = w3 at S0 S1 B0 B1 GW hS ⊢
      generalize w2.heap.size = sb at S0 S1 ⊢
      refine (Run_own _ _ _ N m seq _ (hN'.gr GW) (hm.gr GW) (hs.gr GW)).mono ?_
      rw [HR.out]; rintro _ w4 ⟨v4, rfl, o4, g4⟩
      have i4 := o4.ints
      replace S0 := cell_gr S0 g4
      replace S1 := cell_gr S1 g4
      replace B0 := cell_gr B0 g4
      replace B1 := cell_gr B1 g4
      replace GW := GW.trans g4
      replace hS := hS.gr g4
      clear g4 o4
      go_wp2_with fail
      refine (Dead_calls _ A (N.trans.length : Int) _ hS hC64 hal).mono ?_
      rintro _ w5 ⟨v5, rfl, o5, g5⟩
      obtain ⟨da, dc, rfl, _, _⟩ := o5.ints.len
      have D5 := o5.ints
      replace S0 := cell_gr S0 g5
      replace S1 := cell_gr S1 g5
      replace B0 := cell_gr B0 g5
      replace B1 := cell_gr B1 g5
      replace GW := GW.trans g5
      replace hS := hS.gr g5
      clear g5 o5 i4
      go_wp2_with fail
      go_loopw [43] (fun q wr => ∃ k : Nat, q = .int .i64 k ∧ k ≤ seq.length ∧ Gr w5 wr) (fun q _ => seq.length - (intOf q).toNat)
      case atStart => exact ⟨0, rfl, Nat.zero_le _, Gr.refl _⟩
      case round =>
        rename World => wo
        obtain ⟨k, rfl, hk, hgr⟩ := hrel
        by_cases hlt : k < seq.length
        · obtain ⟨b, o, rfl, c0⟩ := ((hs.gr GW).gr hgr).cell hlt
          have hkI : (k : Int) < (seq.length : Int) := by omega
          have hno : hasB (deadF A (N.trans.length : Int)) (nth seq k) = false := by
            rw [← Bool.not_eq_true, hasB_iff]
            exact HD1.out _ (by rw [nth_lt hlt]; exact List.getElem_mem hlt)
          go_wp2_with fail
          refine (Contains_calls _ (deadF A (N.trans.length : Int)) (nth seq k) _ (D5.gr hgr)).mono ?_
          rw [hno]; rintro _ _ ⟨rfl, rfl⟩
          go_wp2_with fail
          go_roundw
          case rel => exact ⟨k + 1, by go_num, by omega, hgr⟩
          case measure => simp [intOf]; omega
        · obtain rfl : k = seq.length := by omega
          replace S0 := cell_gr S0 hgr
          replace S1 := cell_gr S1 hgr
          replace B0 := cell_gr B0 hgr
          replace B1 := cell_gr B1 hgr
          replace GW := GW.trans hgr
          replace hS := hS.gr hgr
          replace D5 := D5.gr hgr
          clear hgr
          go_wp2_with fail
          go_loopw [54] (fun q wr => ∃ k : Nat, q = .int .i64 k ∧ k ≤ N.trans.length ∧ Gr wo wr) (fun q _ => N.trans.length - (intOf q).toNat)
          case atStart => exact ⟨0, rfl, Nat.zero_le _, Gr.refl _⟩
          case round =>
            rename_i wr
            obtain ⟨k, rfl, hk2, hgr⟩ := hrel
            have S0' := cell_gr S0 hgr
            have S1' := cell_gr S1 hgr
            have B0' := cell_gr B0 hgr
            have B1' := cell_gr B1 hgr
            by_cases hlt2 : k < N.trans.length
            · have hkI : (k : Int) < (N.trans.length : Int) := by omega
              cases hh : hasB (deadF A (N.trans.length : Int)) (k : Int)
              · go_wp2_with fail
                refine (Contains_calls _ (deadF A (N.trans.length : Int)) (k : Int) _ (D5.gr hgr)).mono ?_
                rw [hh]; rintro _ _ ⟨rfl, rfl⟩
                clear hh
                go_wp2_with fail
                go_roundw
                case rel => exact ⟨k + 1, by go_num, by omega, hgr⟩
                case measure => simp [intOf]; omega
              · have hno : hasB (liveF A (N.trans.length : Int)) (k : Int) = false := by
                  rw [← Bool.not_eq_true, hasB_iff]
                  exact HD2.out _ ((hasB_iff _ _).1 hh)
                go_wp2_with fail
                refine (Contains_calls _ (deadF A (N.trans.length : Int)) (k : Int) _ (D5.gr hgr)).mono ?_
                rw [hh]; rintro _ _ ⟨rfl, rfl⟩
                clear hh
                go_wp2_with fail
                refine (Live_calls _ A (N.trans.length : Int) _ (hS.gr hgr) hC64 hml hal).mono ?_
                rintro _ w6 ⟨v6, rfl, o6, g6⟩
                go_wp2_with fail
                refine (Contains_calls _ (liveF A (N.trans.length : Int)) (k : Int) _ o6.ints).mono ?_
                rw [hno]; rintro _ _ ⟨rfl, rfl⟩
                go_wp2_with fail
                go_roundw
                case rel => exact ⟨k + 1, by go_num, by omega, hgr.trans g6⟩
                case measure => simp [intOf]; omega
            · obtain rfl : k = N.trans.length := by omega
              go_wp2_with fail
              go_ret
              exact ⟨rfl, GW.trans hgr⟩
end Go.Proofs.Ytbopachnkbjmfaa
