/- The call CoverBounded answers true at any net, mark and limit that read as data; nothing that lay there turns. -/
import Derived.Test.YtkanaoebpajbfaaAlive5
import Derived.Test.YtkanaoebpajbfaaCover5o
import Derived.Test.YtkanaoebpajbfaaKnotO
import Derived.Test.YtkanaoebpajbfaaPB
import Derived.Test.YtkanaoebpajbfaaGR
namespace Go.Tok
open Go.RowKit Go.Proofs.Ytkanaoebpajbfaa
set_option linter.unusedVariables false
theorem no_many {ks : List KnotD} (h : (ks.any fun k => hasB k.mark (-1)) = false) : ∀ j, j < ks.length → noMany (ix ks j).mark := by
  intro j hj p hp e
  have h1 := List.any_eq_false.1 h _ (ix_mem hj)
  apply h1
  rw [hasB_iff, ← e, nth_lt hp]
  exact List.getElem_mem _
theorem bounded_same {N : NetD} {m : List Int} {most : Int} {ks : List KnotD} {A : SpaceD} (h : treeF N m most = (ks, 0)) (hno : (ks.any fun k => hasB k.mark (-1)) = false) (hg : graphF N m 300 = (A, 0)) :
    (∀ x ∈ A.marks, (ks.any fun k => eqB k.mark x) = true) ∧ ∀ k ∈ ks, (A.marks.any fun x => eqB k.mark x) = true := by
  obtain ⟨_, _, _, hT⟩ := tree_ok h
  obtain ⟨s, _, rfl, _, _, _, hW⟩ := search_of_graph hg
  obtain ⟨h1, h2⟩ := cover_same hT (no_many hno) hW
  refine ⟨fun x hx => ?_, fun k hk => ?_⟩
  · obtain ⟨k, hk, rfl⟩ := h1 x hx
    exact List.any_eq_true.2 ⟨k, hk, eqB_yes rfl⟩
  · exact List.any_eq_true.2 ⟨k.mark, h2 k hk, eqB_yes rfl⟩
theorem bounded_over {N : NetD} {m : List Int} {most : Int} {ks : List KnotD} (h : treeF N m most = (ks, 0)) (hno : (ks.any fun k => hasB k.mark (-1)) = false) (hg : (graphF N m 300).2 ≠ 0) : ks.any overB = true ∧ 0 < m.length := by
  obtain ⟨_, h300, _, hT⟩ := tree_ok h
  have key : ∃ j, j < ks.length ∧ ∃ p, 1000000 < nth (ix ks j).mark p := by
    apply Classical.byContradiction
    intro hc
    refine hg (cover_bounded hT (by omega) (no_many hno) fun j hj p => ?_)
    apply Classical.byContradiction
    intro hp
    exact hc ⟨j, hj, p, by omega⟩
  obtain ⟨j, hj, p, hp⟩ := key
  have hpl : p < (ix ks j).mark.length := by
    apply Classical.byContradiction
    intro hn
    rw [nth_ge (by omega)] at hp
    omega
  refine ⟨List.any_eq_true.2 ⟨_, ix_mem hj, ?_⟩, by have := hT.lens j hj; omega⟩
  unfold overB
  rw [decide_eq_true_eq]
  apply Classical.byContradiction
  intro hn
  have h1 := (maxF_le (xs := (ix ks j).mark) 1000000).1 (by omega)
  have h2 := h1.2 (nth (ix ks j).mark p) (by rw [nth_lt hpl]; exact List.getElem_mem _)
  omega
end Go.Tok
namespace Go.Proofs.Ytkanaoebpajbfaa
open Go.RowKit Go.Tok
set_option linter.unusedVariables false
set_option linter.unusedSimpArgs false
theorem bounded1_answers (w0 : World) (ks : List KnotD) : AnswersKn Try.prog 12 #[] ks (fun k => hasB k.mark (-1)) w0 := by
  intro W u k hk g hI
  obtain ⟨ua, uc, rfl, _, _⟩ := hI.len
  have GA : Gr W (W.alloc (.cells #[.int .i64 k.up, .int .i64 k.tran, .slice ua k.mark.length uc] 33)) := (Gr.refl _).alloc _
  have K2 : (W.alloc (.cells #[.int .i64 k.up, .int .i64 k.tran, .slice ua k.mark.length uc] 33)).cell? ⟨W.heap.size, 2, none⟩ = some (.slice ua k.mark.length uc) := box_cell (Gr.refl _) (i := 2) rfl
  go_enter Try.func12, Try.ntmps12
  go_wp2_with fail
  refine (Contains_calls _ k.mark (-1) _ (hI.gr GA)).mono ?_
  rintro _ w1 ⟨rfl, rfl⟩
  go_wp2_with fail
  go_ret
  exact ⟨rfl, GA⟩
theorem bounded3_answers (w0 : World) (gb : Nat) (gv : Value) (x : List Int) (ks : List KnotD) (hc : w0.cell? ⟨gb, 0, none⟩ = some gv) (hg : Ints w0 gv x) :
    AnswersKn Try.prog 17 #[.pointer (some ⟨gb, 0, none⟩)] ks (fun k => eqB k.mark x) w0 := by
  intro W u k hk g hI
  obtain ⟨ga, gc, rfl, _, _⟩ := hg.len
  obtain ⟨ua, uc, rfl, _, _⟩ := hI.len
  have GA : Gr W (W.alloc (.cells #[.int .i64 k.up, .int .i64 k.tran, .slice ua k.mark.length uc] 33)) := (Gr.refl _).alloc _
  have c := cell_gr (cell_gr hc g) GA
  have K2 : (W.alloc (.cells #[.int .i64 k.up, .int .i64 k.tran, .slice ua k.mark.length uc] 33)).cell? ⟨W.heap.size, 2, none⟩ = some (.slice ua k.mark.length uc) := box_cell (Gr.refl _) (i := 2) rfl
  go_enter Try.func17, Try.ntmps17
  go_wp2_with fail
  refine (Equal_calls _ _ k.mark x _ (hI.gr GA) (hg.gr (g.trans GA))).mono ?_
  rintro _ w1 ⟨rfl, g1⟩
  go_wp2_with fail
  go_ret
  exact ⟨rfl, GA.trans g1⟩
theorem bounded4_answers (w0 : World) (kb : Nat) (kv : Value) (mk : List Int) (xs : List (List Int)) (hc : w0.cell? ⟨kb, 2, none⟩ = some kv) (hg : Ints w0 kv mk) :
    AnswersRow Try.prog 20 #[.pointer (some ⟨kb, 0, none⟩)] xs (fun x => eqB mk x) w0 := by
  intro W u x hx g hI
  obtain ⟨ga, gc, rfl, _, _⟩ := hg.len
  obtain ⟨ua, uc, rfl, _, _⟩ := hI.len
  have c := cell_gr hc g
  go_enter Try.func20, Try.ntmps20
  go_wp2_with fail
  refine (Equal_calls _ _ mk x _ (hg.gr g) hI).mono ?_
  rintro _ w1 ⟨rfl, g1⟩
  go_wp2_with fail
  go_ret
  exact ⟨rfl, g1⟩
/-- Tree at what it takes: its knots, and whose marks they are -/
theorem treeX_calls (v u : Value) (N : NetD) (m : List Int) (most : Int) (ks : List KnotD) (w : World) (hL : treeF N m most = (ks, 0)) (hN : NetR w v N) (hu : Ints w u m) (hI : I64 most) :
    Calls Try.prog 10 #[v, u, .int .i64 most] w fun e w' => ∃ v', e = .returned (.tuple #[v', .int .i64 0]) ∧ Rd knK w' v' ks ∧ Gr w w' ∧ (0 < m.length → ∃ B tb, OwnK 33 3 B tb w' v' ks ∧ w.heap.size ≤ B) := by
  by_cases h0 : 0 < m.length
  · refine (Tree_callsO v u N m most w hN hu hI h0).mono ?_
    rw [hL]
    rintro _ w' ⟨v', B, tb, rfl, h1, h2, h3⟩
    exact ⟨v', rfl, h1, h2, fun _ => ⟨B, tb, h3 rfl⟩⟩
  · refine (Tree_calls v u N m most w hN hu hI).mono ?_
    rw [hL]
    rintro _ w' ⟨v', rfl, h1, h2⟩
    exact ⟨v', rfl, h1, h2, fun h => absurd h h0⟩
set_option maxHeartbeats 4000000 in
set_option maxRecDepth 100000 in
theorem CoverBounded_walk {v u : Value} {N : NetD} {m : List Int} {most : Int} (w : World) (hN : NetR w v N) (hm0 : Ints w u m ∧ m.length ≤ 17592186043904) (hmo : I64 most) :
    Calls Try.prog 3 #[v, u, .int .i64 most] w fun e w' => e = .returned (.bool true) ∧ Gr w w' := by
  obtain ⟨hm, _⟩ := hm0
  have hN' := hN
  obtain ⟨a, cap, rfl, hnl, hncap, hpl, hT⟩ := hN.open_
  have hpl1 := hpl.1
  have hpl2 := hpl.2
  obtain ⟨ua, uc, rfl, _, _⟩ := hm.len
  rcases hL : treeF N m most with ⟨ks, e⟩
  have HL := Lib.hid hL
  clear hL
  have eg1 : ∀ args w, (callFunc 12 args).run Try.prog w = .ok (.enter 12 args) w := (Go.Proofs.enters_of Try.func12 (by kernel_rfl) rfl)
  have eg2 : ∀ args w, (callFunc 15 args).run Try.prog w = .ok (.enter 15 args) w := (Go.Proofs.enters_of Try.func15 (by kernel_rfl) rfl)
  have eg3 : ∀ args w, (callFunc 17 args).run Try.prog w = .ok (.enter 17 args) w := (Go.Proofs.enters_of Try.func17 (by kernel_rfl) rfl)
  have eg4 : ∀ args w, (callFunc 20 args).run Try.prog w = .ok (.enter 20 args) w := (Go.Proofs.enters_of Try.func20 (by kernel_rfl) rfl)
  have EG1 := Lib.hid eg1
  have EG2 := Lib.hid eg2
  have EG3 := Lib.hid eg3
  have EG4 := Lib.hid eg4
  clear eg1 eg2 eg3 eg4
  go_enter Try.func3, Try.ntmps3
  go_wp2_with fail
  refine (alive5_calls _).mono ?_
  rintro _ w1 ⟨rfl, g1⟩
  have B0 := box_cell g1 (i := 0) (v := .int .i64 N.places) rfl
  have B1 := box_cell g1 (i := 1) (v := .slice a N.trans.length cap) rfl
  have GW : Gr w w1 := ((Gr.refl w).alloc _).trans g1
  clear g1
  by_cases he : e = 0
  case neg =>
    have heB : (e != 0) = true := by simpa using he
    go_wp2_with fail
    refine (Tree_calls _ _ N m most _ (hN'.gr GW) (hm.gr GW) hmo).mono ?_
    rw [HL.out]; rintro _ w2 ⟨v2, rfl, i2, g2⟩
    obtain ⟨la, lc, rfl, _, _⟩ := i2.len
    simp only []
    clear he i2
    go_wp2_with fail
    go_ret
    exact ⟨rfl, GW.trans g2⟩
  subst he
  go_wp2_with fail
  refine (treeX_calls _ _ N m most ks _ HL.out (hN'.gr GW) (hm.gr GW) hmo).mono ?_
  rintro _ w2 ⟨v2, rfl, i2, g2, hown⟩
  obtain ⟨la, lc, rfl, hlk1, hlk2⟩ := i2.len
  have GW2 := GW.trans g2
  have HG2 := Lib.hid GW2
  have HI2 := Lib.hid i2
  have HOW := Lib.hid (fun h => (hown h))
  have HLE := Lib.hid GW.le
  have D0 := cell_gr B0 g2
  have D1 := cell_gr B1 g2
  clear B0 B1 i2 g2 hown GW
  rcases hany : (ks.any fun k => hasB k.mark (-1)) with _ | _
  case true =>
    have HA := Lib.hid hany
    clear hany
    go_wp2_with fail
    refine (ContainsFuncKn_calls _ ks 12 #[] (fun k => hasB k.mark (-1)) _ EG1.out HI2.out (bounded1_answers _ ks)).mono ?_
    rw [HA.out]; rintro _ w3 ⟨rfl, g3⟩
    go_wp2_with fail
    go_ret
    exact ⟨rfl, HG2.out.trans g3⟩
  have HA := Lib.hid hany
  clear hany
  go_wp2_with fail
  refine (ContainsFuncKn_calls _ ks 12 #[] (fun k => hasB k.mark (-1)) _ EG1.out HI2.out (bounded1_answers _ ks)).mono ?_
  rw [HA.out]; rintro _ w3 ⟨rfl, g3⟩
  have E0 := cell_gr D0 g3
  have E1 := cell_gr D1 g3
  have GW3 := GW2.trans g3
  have HG3 := Lib.hid g3
  clear D0 D1 g3
  rcases hgr : graphF N m 300 with ⟨A, f⟩
  have HGR := Lib.hid hgr
  clear hgr
  go_wp2_with fail
  refine (Graph_calls _ _ N m 300 _ (hN'.gr GW3) (hm.gr GW3) (by decide)).mono ?_
  rw [HGR.out]; rintro _ w4 ⟨v4, rfl, i4, g4⟩
  obtain ⟨ma2, mc2, aa2, ac2, rfl, hA1, hA2, _, _, hAm, _⟩ := i4.open_
  simp only []
  have HG4 := Lib.hid (HG3.out.trans g4)
  have GW4 := GW3.trans g4
  clear E0 E1 g4 GW3
  have bS : Blk (w4.alloc (.cells #[.slice ma2 A.marks.length mc2, .slice aa2 A.arcs.length ac2] 39)) w4.heap.size 39 #[.slice ma2 A.marks.length mc2, .slice aa2 A.arcs.length ac2] := Blk.new rfl
  have GS : Gr w4 (w4.alloc (.cells #[.slice ma2 A.marks.length mc2, .slice aa2 A.arcs.length ac2] 39)) := (Gr.refl _).alloc _
  by_cases hf : f = 0
  case neg =>
    have hfB : (f != 0) = true := by simpa using hf
    obtain ⟨hov, hm0⟩ := bounded_over HL.out HA.out (by rw [HGR.out]; exact hf)
    have HOV := Lib.hid hov
    clear hf hov
    obtain ⟨B, tb, hO, hB⟩ := HOW.out hm0
    obtain ⟨xs, hx1, hx2, _, hx4, hx5⟩ := hO.marks
    rcases hO.form with ⟨_, h0⟩ | ⟨kb, kc, hv, hB1, hB2, _, _⟩
    · subst h0
      have := HOV.out
      simp at this
    cases hv
    have hl100 : ∀ k ∈ ks, k.mark.length ≤ 100 := by
      obtain ⟨_, _, hfit, hT⟩ := tree_ok HL.out
      obtain ⟨_, _, _, s4, _⟩ := fits_sizes hfit
      intro k hk
      obtain ⟨j, hj, rfl⟩ := List.getElem_of_mem hk
      have := hT.lens j hj
      rw [ix_lt hj] at this
      omega
    have hB5 : B ≤ (w4.alloc (.cells #[.slice ma2 A.marks.length mc2, .slice aa2 A.arcs.length ac2] 39)).heap.size := by
      have h1 := (HG4.out.trans GS).le
      omega
    have HCF := Lib.hid (ContainsFuncO_calls kb lc B xs ks 15 overB _ EG2.out hx1 (KI.start (hx2.gr (HG4.out.trans GS)) hB5) hlk1 hlk2 hx4 (fun i hi b hb => hx5 i hi b hb) (over2_writes B ks hl100))
    have HWB : Hid (w.heap.size ≤ B) := Lib.hid (by have := HLE.out; omega)
    have HG5 := Lib.hid (GW4.trans GS)
    clear hO hx1 hx2 hx4 hx5 hl100 hB hB1 hB2 hB5 bS GS GW4 hAm
    go_wp2_with fail
    refine HCF.out.mono ?_
    rw [HOV.out]; rintro _ w6 ⟨rfl, g6⟩
    go_wp2_with fail
    go_ret
    exact ⟨rfl, g6 w HWB.out HG5.out⟩
  subst hf
  have HSM := Lib.hid (bounded_same HL.out HA.out HGR.out)
  obtain ⟨w5, hw5⟩ : ∃ w5, w5 = w4.alloc (.cells #[.slice ma2 A.marks.length mc2, .slice aa2 A.arcs.length ac2] 39) := ⟨_, rfl⟩
  have S0 := bS.cell (i := 0) (v := .slice ma2 A.marks.length mc2) rfl
  have HS0 : Hid (w5.cell? ⟨w4.heap.size, 0, none⟩ = some (.slice ma2 A.marks.length mc2)) := Lib.hid (by rw [hw5]; exact S0)
  have HAM : Hid (Rd rowK w5 (.slice ma2 A.marks.length mc2) A.marks) := Lib.hid (by rw [hw5]; exact hAm.gr GS)
  have HK5 : Hid (Rd knK w5 (.slice la ks.length lc) ks) := Lib.hid (by rw [hw5]; exact HI2.out.gr (HG4.out.trans GS))
  have HG5 : Hid (Gr w w5) := Lib.hid (by rw [hw5]; exact GW4.trans GS)
  clear hAm HOW bS GS GW4
  go_wp2_with fail
  rw [← hw5]
  clear S0 hw5
  go_loopw [43] (fun q wr => ∃ k : Nat, q = .int .i64 k ∧ k ≤ A.marks.length ∧ Gr w5 wr) (fun q _ => A.marks.length - (intOf q).toNat)
  case atStart => exact ⟨0, rfl, Nat.zero_le _, Gr.refl _⟩
  case round =>
    rename World => wr
    obtain ⟨k, rfl, hk, hgr⟩ := hrel
    by_cases hlt : k < A.marks.length
    · have hkI : (k : Int) < (A.marks.length : Int) := by omega
      obtain ⟨b, o, x, rfl, c0, hI⟩ := (HAM.out.gr hgr).row hlt
      have HX := Lib.hid (HSM.out.1 _ (ix_mem hlt))
      obtain ⟨xa, xc, rfl, _, _⟩ := hI.len
      have X0 : (wr.alloc (.cells #[.slice xa (ix A.marks k).length xc] 25)).cell? ⟨wr.heap.size, 0, none⟩ = some (.slice xa (ix A.marks k).length xc) := box_cell (Gr.refl _) (i := 0) rfl
      have GX : Gr wr (wr.alloc (.cells #[.slice xa (ix A.marks k).length xc] 25)) := (Gr.refl _).alloc _
      have HCF := Lib.hid (ContainsFuncKn_calls _ ks 17 #[.pointer (some ⟨wr.heap.size, 0, none⟩)] (fun y => eqB y.mark (ix A.marks k)) _ EG3.out (HK5.out.gr (hgr.trans GX)) (bounded3_answers _ _ _ _ ks X0 (hI.gr GX)))
      have HGX := Lib.hid (hgr.trans GX)
      clear X0 GX hI
      go_wp2_with fail
      refine HCF.out.mono ?_
      rw [HX.out]; rintro _ w6 ⟨rfl, g6⟩
      go_wp2_with fail
      go_roundw
      case rel => exact ⟨k + 1, by go_num, by omega, HGX.out.trans g6⟩
      case measure => simp [intOf]; omega
    · obtain rfl : k = A.marks.length := by omega
      have HGr := Lib.hid hgr
      have T0 := cell_gr HS0.out hgr
      go_wp2_with fail
      go_loopw [54] (fun q wq => ∃ k : Nat, q = .int .i64 k ∧ k ≤ ks.length ∧ Gr wr wq) (fun q _ => ks.length - (intOf q).toNat)
      case atStart => exact ⟨0, rfl, Nat.zero_le _, Gr.refl _⟩
      case round =>
        rename World => wq
        obtain ⟨k, rfl, hk2, hgq⟩ := hrel
        by_cases hlt2 : k < ks.length
        · have hkI : (k : Int) < (ks.length : Int) := by omega
          obtain ⟨b, o, x, rfl, c0, c1, c2, hI⟩ := (HK5.out.gr (HGr.out.trans hgq)).knot hlt2
          have HX := Lib.hid (HSM.out.2 _ (ix_mem hlt2))
          obtain ⟨xa, xc, rfl, _, _⟩ := hI.len
          have bK : Blk (wq.alloc (.cells #[.int .i64 (ix ks k).up, .int .i64 (ix ks k).tran, .slice xa (ix ks k).mark.length xc] 33)) wq.heap.size 33 #[.int .i64 (ix ks k).up, .int .i64 (ix ks k).tran, .slice xa (ix ks k).mark.length xc] := Blk.new rfl
          have X0 := bK.cell (i := 2) (v := .slice xa (ix ks k).mark.length xc) rfl
          have GX : Gr wq (wq.alloc (.cells #[.int .i64 (ix ks k).up, .int .i64 (ix ks k).tran, .slice xa (ix ks k).mark.length xc] 33)) := (Gr.refl _).alloc _
          have HCF := Lib.hid (ContainsFuncRow_calls _ A.marks 20 #[.pointer (some ⟨wq.heap.size, 0, none⟩)] (fun y => eqB (ix ks k).mark y) _ EG4.out (HAM.out.gr ((HGr.out.trans hgq).trans GX)) (bounded4_answers _ _ _ _ A.marks X0 (hI.gr GX)))
          have HGX := Lib.hid (hgq.trans GX)
          have T1 := cell_gr (cell_gr T0 hgq) GX
          clear X0 GX hI bK
          go_wp2_with fail
          refine HCF.out.mono ?_
          rw [HX.out]; rintro _ w6 ⟨rfl, g6⟩
          go_wp2_with fail
          go_roundw
          case rel => exact ⟨k + 1, by go_num, by omega, HGX.out.trans g6⟩
          case measure => simp [intOf]; omega
        · obtain rfl : k = ks.length := by omega
          have HGF := Lib.hid ((HG5.out.trans HGr.out).trans hgq)
          go_wp2_with fail
          go_ret
          exact ⟨rfl, HGF.out⟩
end Go.Proofs.Ytkanaoebpajbfaa
