/- The call ReachClosed answers true at any net, mark, limit and sequence that read as data; nothing that lay there turns. -/
import Derived.Test.YtelfbfjegmncaaaAlive4
namespace Go.Tok
theorem graph_search {N : NetD} {m : List Int} {most : Int} {A : SpaceD} (h : graphF N m most = (A, 0)) : ∃ s, searchF N m most = (s, 0) ∧ A = ⟨s.marks, s.arcs⟩ ∧ 1 ≤ most ∧ most ≤ 300 ∧ fitsB N m = true ∧ Whole N m most.toNat s := by
  unfold graphF at h
  split at h
  · rename_i h0
    rcases hs : searchF N m most with ⟨s, e⟩
    rw [hs] at h h0
    simp only [] at h0
    subst h0
    cases h
    obtain ⟨h1, h2, h3, h4⟩ := search_ok hs
    exact ⟨s, rfl, rfl, h1, h2, h3, h4⟩
  · rename_i h0; exact absurd (Prod.mk.inj h).2 h0
theorem graph_zero {N : NetD} {m : List Int} {most : Int} {A : SpaceD} {e : Int} (h : graphF N m most = (A, e)) (he : e ≠ 0) : A = zeroS := by
  unfold graphF at h
  split at h
  · exact absurd (Prod.mk.inj h).2.symm he
  · exact (Prod.mk.inj h).1.symm
end Go.Tok
namespace Go.Proofs.Ytelfbfjegmncaaa
open Go.RowKit Go.Tok
set_option linter.unusedVariables false
theorem ReachClosed1_answers (w0 : World) (gb : Nat) (gv : Value) (x : List Int) (xs : List (List Int)) (hc : w0.cell? ⟨gb, 0, none⟩ = some gv) (hg : Ints w0 gv x) :
    AnswersRow Try.prog 31 #[.pointer (some ⟨gb, 0, none⟩)] xs (fun y => eqB x y) w0 := by
  intro W u y hy g hI
  have c := cell_gr hc g
  obtain ⟨ga, gc, rfl, _, _⟩ := hg.len
  go_enter Try.func31, Try.ntmps31
  go_wp2_with fail
  refine (Equal_calls _ _ x y _ (hg.gr g) hI).mono ?_
  rintro _ w1 ⟨rfl, g1⟩
  go_wp2_with fail
  go_ret
  exact ⟨rfl, g1⟩
set_option maxHeartbeats 4000000 in
set_option maxRecDepth 100000 in
theorem ReachClosed_walk {v u z : Value} {N : NetD} {m seq : List Int} {most : Int} (w : World) (hN : NetR w v N) (hm0 : Ints w u m ∧ m.length ≤ 17592186043904) (hmo : I64 most) (hz0 : Ints w z seq ∧ seq.length ≤ 17592186043904) :
    Calls Try.prog 6 #[v, u, .int .i64 most, z] w fun e w' => e = .returned (.bool true) ∧ Gr w w' := by
  obtain ⟨hm, _⟩ := hm0
  obtain ⟨hz, _⟩ := hz0
  have hN' := hN
  obtain ⟨a, cap, rfl, hnl, hncap, hpl, hT⟩ := hN.open_
  have hpl1 := hpl.1
  have hpl2 := hpl.2
  obtain ⟨za, zc, rfl, _, _⟩ := hz.len
  rcases ha : graphF N m most with ⟨A, e⟩
  have HA := Lib.hid ha
  by_cases he : e = 0
  case neg =>
    have q1 : (e != 0) = true := by simpa using he
    obtain rfl := graph_zero ha he
    clear ha he
    go_enter Try.func6, Try.ntmps6
    go_wp2_with fail
    refine (alive4_calls _).mono ?_
    rintro _ w1 ⟨rfl, g1⟩
    have B0 := box_cell g1 (i := 0) rfl
    have B1 := box_cell g1 (i := 1) rfl
    have GW : Gr w w1 := ((Gr.refl w).alloc _).trans g1
    go_wp2_with fail
    refine (Graph_calls _ _ N m most _ (hN'.gr GW) (hm.gr GW) hmo).mono ?_
    rw [HA.out]; rintro _ w2 ⟨v2, rfl, i2, g2⟩
    obtain ⟨ma2, mc2, aa2, ac2, rfl⟩ := i2.open0
    have e1 : zeroS.marks.length = 0 := rfl
    have e2 : zeroS.arcs.length = 0 := rfl
    go_wp2_with fail
    go_ret
    exact ⟨rfl, (GW.trans g2).alloc _⟩
  case pos =>
    subst he
    obtain ⟨s, hs, rfl, h1, h2, hfit, hW⟩ := graph_search ha
    have eg : ∀ args w, (callFunc 31 args).run Try.prog w = .ok (.enter 31 args) w := (Go.Proofs.enters_of Try.func31 (by kernel_rfl) rfl)
    have hml : s.marks.length ≤ 300 := by have := hW.le; omega
    have HW := Lib.hid hW
    clear ha hs h1 h2 hfit hW
    go_enter Try.func6, Try.ntmps6
    go_wp2_with fail
    refine (alive4_calls _).mono ?_
    rintro _ w1 ⟨rfl, g1⟩
    have B0 := box_cell g1 (i := 0) rfl
    have B1 := box_cell g1 (i := 1) rfl
    have GW : Gr w w1 := ((Gr.refl w).alloc _).trans g1
    go_wp2_with fail
    refine (Graph_calls _ _ N m most _ (hN'.gr GW) (hm.gr GW) hmo).mono ?_
    rw [HA.out]; rintro _ w2 ⟨v2, rfl, i2, g2⟩
    obtain ⟨ma, mc, aa, ac, rfl, hc1, hc2, _, _, ms, sas⟩ := i2.open_
    simp only [] at hc1 ms sas
    have GS : Gr w2 (w2.alloc (.cells #[.slice ma s.marks.length mc, .slice aa s.arcs.length ac] 40)) := (Gr.refl _).alloc _
    have S0 : (w2.alloc (.cells #[.slice ma s.marks.length mc, .slice aa s.arcs.length ac] 40)).cell? ⟨w2.heap.size, 0, none⟩ = some (.slice ma s.marks.length mc) := box_cell (Gr.refl _) (i := 0) rfl
    replace B0 := cell_gr (cell_gr B0 g2) GS
    replace B1 := cell_gr (cell_gr B1 g2) GS
    replace GW := (GW.trans g2).trans GS
    replace ms := ms.gr GS
    clear g1 i2 sas
    go_wp2_with fail
    generalize w2.alloc (.cells #[.slice ma s.marks.length mc, .slice aa s.arcs.length ac] 40) = w3 at GS S0 B0 B1 GW ms ⊢
    go_loopw [41] (fun q wr => ∃ i : Nat, i ≤ s.marks.length ∧ q = .int .i64 i ∧ Gr w3 wr) (fun q _ => s.marks.length - (intOf q).toNat)
    case atStart => exact ⟨0, Nat.zero_le _, rfl, Gr.refl _⟩
    case round =>
      rename World => wo
      obtain ⟨i, hi, rfl, hgo⟩ := hrel
      have S0' := cell_gr S0 hgo
      by_cases hlt : i < s.marks.length
      · obtain ⟨b, o, y, rfl, c0, hI⟩ := (ms.gr hgo).row hlt
        obtain ⟨ya, yc, rfl, _, _⟩ := hI.len
        have hiI : (i : Int) < (s.marks.length : Int) := by omega
        have hicI : (i : Int) ≤ (mc : Int) := by omega
        have mst := (ms.gr hgo).take (m := i) hi
        go_wp2_with fail
        go_loopw [51] (fun q wr => ∃ j : Nat, j ≤ i ∧ q = .int .i64 j ∧ Gr w3 wr) (fun q _ => i - (intOf q).toNat)
        case atStart => exact ⟨0, Nat.zero_le _, rfl, hgo⟩
        case round =>
          rename_i wr
          obtain ⟨j, hj, rfl, hgr⟩ := hrel
          by_cases hjl : j < i
          · obtain ⟨b', o', y', hb', d0, hJ⟩ := (ms.gr hgr).row (show j < s.marks.length by omega)
            cases hb'
            obtain ⟨ya', yc', rfl, _, _⟩ := hJ.len
            have hne : eqB (ix s.marks i) (ix s.marks j) = false := by
              rw [Bool.eq_false_iff]
              intro h
              have := HW.out.inj hlt (by omega) ((eqB_iff _ _).1 h)
              omega
            have hI' : Ints wr (.slice ya (ix s.marks i).length yc) (ix s.marks i) := by
              obtain ⟨b2, o2, y2, hb2, d2, hJ2⟩ := (ms.gr hgr).row hlt
              cases hb2
              have := cell_gr ((show w3.cell? ⟨b, o + i, none⟩ = some (.slice ya (ix s.marks i).length yc) by
                obtain ⟨b3, o3, y3, hb3, d3, _⟩ := ms.row hlt
                cases hb3
                have h5 := cell_gr d3 hgo
                rw [c0] at h5
                rw [d3, ← h5])) hgr
              rw [d2] at this
              cases this
              exact hJ2
            have hjI : (j : Int) < (i : Int) := by omega
            go_wp2_with fail
            refine (Equal_calls _ _ (ix s.marks i) (ix s.marks j) _ hI' hJ).mono ?_
            rw [hne]; rintro _ w5 ⟨rfl, g5⟩
            go_wp2_with fail
            go_roundw
            case rel => exact ⟨j + 1, by omega, by go_num, hgr.trans g5⟩
            case measure => simp [intOf]; omega
          · obtain rfl : j = i := by omega
            go_wp2_with fail
            go_roundw
            case rel => exact ⟨j + 1, by omega, by go_num, hgr⟩
            case measure => simp [intOf]; omega
      · obtain rfl : i = s.marks.length := by omega
        replace B0 := cell_gr B0 hgo
        replace B1 := cell_gr B1 hgo
        replace GW := GW.trans hgo
        replace ms := ms.gr hgo
        clear S0 hgo GS
        rcases HW.out.runF seq with ⟨y, hr, hy⟩ | hr
        · have HR := Lib.hid hr
          have hany : s.marks.any (fun z => eqB y z) = true := List.any_eq_true.2 ⟨y, hy, eqB_yes rfl⟩
          clear hr hy
          go_wp2_with fail
          refine (Run_calls _ _ _ N m seq _ (hN'.gr GW) (hm.gr GW) (hz.gr GW)).mono ?_
          rw [HR.out]; rintro _ w5 ⟨v5, rfl, i5, g5⟩
          obtain ⟨xa, xc, rfl, _, _⟩ := i5.len
          have GX : Gr w5 (w5.alloc (.cells #[.slice xa y.length xc] 32)) := (Gr.refl _).alloc _
          have X0 : (w5.alloc (.cells #[.slice xa y.length xc] 32)).cell? ⟨w5.heap.size, 0, none⟩ = some (.slice xa y.length xc) := box_cell (Gr.refl _) (i := 0) rfl
          have S5 := cell_gr (cell_gr S0' g5) GX
          have ms5 := (ms.gr g5).gr GX
          go_wp2_with fail
          refine (ContainsFuncRow_calls _ s.marks 31 _ (fun z => eqB y z) _ eg ms5 (ReachClosed1_answers _ _ _ y _ X0 (i5.gr GX))).mono ?_
          rw [hany]; rintro _ w6 ⟨rfl, g6⟩
          go_wp2_with fail
          go_ret
          exact ⟨rfl, ((GW.trans g5).trans GX).trans g6⟩
        · have HR := Lib.hid hr
          clear hr
          go_wp2_with fail
          refine (Run_calls _ _ _ N m seq _ (hN'.gr GW) (hm.gr GW) (hz.gr GW)).mono ?_
          rw [HR.out]; rintro _ w5 ⟨v5, rfl, i5, g5⟩
          obtain ⟨xa, xc, rfl, _, _⟩ := i5.len
          go_wp2_with fail
          go_ret
          exact ⟨rfl, (GW.trans g5).alloc _⟩
end Go.Proofs.Ytelfbfjegmncaaa
