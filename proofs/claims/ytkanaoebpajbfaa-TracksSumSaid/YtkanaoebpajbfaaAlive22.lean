/- The call alive22 answers true, in whatever world; nothing that lay there turns. -/
import Derived.Test.YtkanaoebpajbfaaTrk5
import Derived.Test.YtkanaoebpajbfaaTrk6
import Derived.Test.YtkanaoebpajbfaaSameRows
import Derived.Test.YtkanaoebpajbfaaBlkR
namespace Go.Tok
theorem log22 : trkLog [[1, 2, 3], [2], []] = ⟨[1, 2, 3], [1, 2], [3, 2], [(1, 2), (2, 3)]⟩ := by
  have e : ∀ s : TrkD, s = ⟨s.all, s.first, s.last, s.behind⟩ := fun _ => rfl
  have h1 : (trkLog [[1, 2, 3], [2], []]).all = [1, 2, 3] := by decide +kernel
  have h2 : (trkLog [[1, 2, 3], [2], []]).first = [1, 2] := by decide +kernel
  have h3 : (trkLog [[1, 2, 3], [2], []]).last = [3, 2] := by decide +kernel
  have h4 : (trkLog [[1, 2, 3], [2], []]).behind = [(1, 2), (2, 3)] := by decide +kernel
  rw [e (trkLog _), h1, h2, h3, h4]
theorem of22 : ofT [[1, 2, 3], [2], []] = (⟨[1, 2, 3], [1, 2], [2, 3], [(1, 2), (2, 3)]⟩, 0) := by
  have hw : wrongT [[1, 2, 3], [2], []] = 0 := by decide +kernel
  unfold ofT
  rw [if_pos hw, log22]
  have e1 : sortI [1, 2, 3] = [1, 2, 3] := sortI_is (List.Perm.refl _) (by simp)
  have e2 : sortI [1, 2] = [1, 2] := sortI_is (List.Perm.refl _) (by simp)
  have e3 : sortI [3, 2] = [2, 3] := sortI_is (List.Perm.swap _ _ _) (by simp)
  have e4 : sortP [(1, 2), (2, 3)] = [(1, 2), (2, 3)] := sortP_is (List.Perm.refl _) (by simp [leP])
  rw [e1, e2, e3, e4]
end Go.Tok
namespace Go.Proofs.Ytkanaoebpajbfaa
open Go.RowKit Go.Tok
set_option linter.unusedVariables false
set_option maxHeartbeats 4000000 in
set_option maxRecDepth 100000 in
theorem alive22_calls (w : World) : Calls Try.prog 28 #[] w fun e w' => e = .returned (.bool true) ∧ Gr w w' := by
  have HO := Lib.hid of22
  have E1 := Lib.hid (eqB_yes (rfl : ([1, 2, 3] : List Int) = [1, 2, 3]))
  have E2 := Lib.hid (eqB_yes (rfl : ([1, 2] : List Int) = [1, 2]))
  have E3 := Lib.hid (eqB_yes (rfl : ([2, 3] : List Int) = [2, 3]))

  have E5 := Lib.hid (show ontoT [[1, 2, 1]] [1] = [[1, 1]] by simp [ontoT, hasB_def])
  obtain ⟨wS, hwS⟩ : ∃ wS, wS = ((w.alloc (.cells #[.int .i64 1, .int .i64 2, .int .i64 3] 3)).alloc (.cells #[.int .i64 2] 3)).alloc (.cells #[.slice (some ⟨w.heap.size, 0, none⟩) 3 3, .slice (some ⟨w.heap.size + 1, 0, none⟩) 1 1, .slice none 0 0] 25) := ⟨_, rfl⟩
  have GS : Gr w wS := by rw [hwS]; exact (((Gr.refl _).alloc _).alloc _).alloc _
  have c0 : Blk wS w.heap.size 3 #[.int .i64 1, .int .i64 2, .int .i64 3] := by rw [hwS]; exact (Blk.new rfl).gr (((Gr.refl _).alloc _).alloc _)
  have c1 : Blk wS (w.heap.size + 1) 3 #[.int .i64 2] := by rw [hwS]; exact (Blk.new (by simp)).gr ((Gr.refl _).alloc _)
  have cT : Blk wS (w.heap.size + 1 + 1) 25 #[.slice (some ⟨w.heap.size, 0, none⟩) 3 3, .slice (some ⟨w.heap.size + 1, 0, none⟩) 1 1, .slice none 0 0] := by rw [hwS]; exact (Blk.new (by simp))
  have j0 : Ints wS (.slice (some ⟨w.heap.size, 0, none⟩) 3 3) [1, 2, 3] := Ints.blkl c0 rfl rfl (by decide) (by simp)
  have j1 : Ints wS (.slice (some ⟨w.heap.size + 1, 0, none⟩) 1 1) [2] := Ints.blkl c1 rfl rfl (by decide) (by simp)
  have jR : Rd rowK wS (.slice (some ⟨w.heap.size + 1 + 1, 0, none⟩) 3 3) [[1, 2, 3], [2], []] := Rd.blkRows cT rfl (by simp) fun i hi => by
    have hi2 : i = 0 ∨ i = 1 ∨ i = 2 := by simp at hi; omega
    rcases hi2 with rfl | rfl | rfl
    · exact ⟨_, rfl, by rw [ix_zero]; exact j0⟩
    · exact ⟨_, rfl, by rw [ix_succ, ix_zero]; exact j1⟩
    · exact ⟨_, rfl, by rw [ix_succ, ix_succ, ix_zero]; exact Ints.nil _⟩
  clear c0 c1 cT j0 j1
  go_enter Try.func28, Try.ntmps28
  go_wp2_with fail
  rw [← hwS]
  clear hwS
  refine (Of_calls _ _ _ jR).mono ?_
  rw [HO.out]
  rintro _ w1 ⟨v1, v2, v3, v4, rfl, o1, o2, o3, o4, g1⟩
  have i1 := o1.ints
  have i2 := o2.ints
  have i3 := o3.ints
  have i4 := own_rdP o4
  clear o1 o2 o3 o4 jR
  obtain ⟨a1, m1, rfl, _, _⟩ := i1.len
  obtain ⟨a2, m2, rfl, _, _⟩ := i2.len
  obtain ⟨a3, m3, rfl, _, _⟩ := i3.len
  obtain ⟨a4, m4, rfl, _, _⟩ := i4.len
  simp only [List.length_cons, List.length_nil, Nat.zero_add, Nat.reduceAdd] at *
  have bX : Blk (w1.alloc (.cells #[.slice a1 3 m1, .slice a2 2 m2, .slice a3 2 m3, .slice a4 2 m4] 66)) w1.heap.size 66 #[.slice a1 3 m1, .slice a2 2 m2, .slice a3 2 m3, .slice a4 2 m4] := Blk.new rfl
  have GX : Gr w1 (w1.alloc (.cells #[.slice a1 3 m1, .slice a2 2 m2, .slice a3 2 m3, .slice a4 2 m4] 66)) := (Gr.refl _).alloc _
  have A0 := bX.cell (i := 0) (v := .slice a1 3 m1) rfl
  have G1 := GS.trans g1
  go_wp2_with fail
  have L1 : Ints ((w1.alloc (.cells #[.slice a1 3 m1, .slice a2 2 m2, .slice a3 2 m3, .slice a4 2 m4] 66)).alloc (.cells #[.int .i64 1, .int .i64 2, .int .i64 3] 3)) (.slice (some ⟨w1.heap.size + 1, 0, none⟩) 3 3) [1, 2, 3] := Ints.lit (by simp) rfl rfl rfl (by decide) (by simp)
  have GL : Gr (w1.alloc (.cells #[.slice a1 3 m1, .slice a2 2 m2, .slice a3 2 m3, .slice a4 2 m4] 66)) ((w1.alloc (.cells #[.slice a1 3 m1, .slice a2 2 m2, .slice a3 2 m3, .slice a4 2 m4] 66)).alloc (.cells #[.int .i64 1, .int .i64 2, .int .i64 3] 3)) := (Gr.refl _).alloc _
  refine (Equal_calls _ _ [1, 2, 3] [1, 2, 3] _ (i1.gr (GX.trans GL)) L1).mono ?_
  rw [E1.out]; rintro _ w2 ⟨rfl, g2⟩
  have bX2 := bX.gr (GL.trans g2)
  have A1 := bX2.cell (i := 1) (v := .slice a2 2 m2) rfl
  have H2 := (GX.trans GL).trans g2
  clear A0 bX GL g2 L1 GX
  go_wp2_with fail
  have GL : Gr w2 (w2.alloc (.cells #[.int .i64 1, .int .i64 2] 3)) := (Gr.refl _).alloc _
  have L2 : Ints (w2.alloc (.cells #[.int .i64 1, .int .i64 2] 3)) (.slice (some ⟨w2.heap.size, 0, none⟩) 2 2) [1, 2] := Ints.lit rfl rfl rfl rfl (by decide) (by simp)
  refine (Equal_calls _ _ [1, 2] [1, 2] _ (i2.gr (H2.trans GL)) L2).mono ?_
  rw [E2.out]; rintro _ w3 ⟨rfl, g3⟩
  have bX3 := bX2.gr (GL.trans g3)
  have A2 := bX3.cell (i := 2) (v := .slice a3 2 m3) rfl
  have H3 := (H2.trans GL).trans g3
  clear A1 bX2 GL g3 L2 H2
  go_wp2_with fail
  have GL : Gr w3 (w3.alloc (.cells #[.int .i64 2, .int .i64 3] 3)) := (Gr.refl _).alloc _
  have L3 : Ints (w3.alloc (.cells #[.int .i64 2, .int .i64 3] 3)) (.slice (some ⟨w3.heap.size, 0, none⟩) 2 2) [2, 3] := Ints.lit rfl rfl rfl rfl (by decide) (by simp)
  refine (Equal_calls _ _ [2, 3] [2, 3] _ (i3.gr (H3.trans GL)) L3).mono ?_
  rw [E3.out]; rintro _ w4 ⟨rfl, g4⟩
  have bX4 := bX3.gr (GL.trans g4)
  have A3 := bX4.cell (i := 3) (v := .slice a4 2 m4) rfl
  have H4 := (H3.trans GL).trans g4
  clear A2 bX3 GL g4 L3 H3
  go_wp2_with fail
  have GL : Gr w4 (w4.alloc (.cells #[.int .i64 1, .int .i64 2, .int .i64 2, .int .i64 3] 71)) := (Gr.refl _).alloc _
  have L4 : Rd pairK (w4.alloc (.cells #[.int .i64 1, .int .i64 2, .int .i64 2, .int .i64 3] 71)) (.slice (some ⟨w4.heap.size, 0, none⟩) 2 2) [(1, 2), (2, 3)] := Rd.blkFlat (Blk.new rfl) rfl (by simp) rfl (by unfold pairI; decide)
  refine (EqualP_calls _ _ [(1, 2), (2, 3)] [(1, 2), (2, 3)] _ (i4.gr (H4.trans GL)) L4).mono ?_
  rw [decide_eq_true (rfl : ([(1, 2), (2, 3)] : List (Int × Int)) = [(1, 2), (2, 3)])]; rintro _ w5 ⟨rfl, g5⟩
  have H5 := (H4.trans GL).trans g5
  clear A3 bX4 GL g5 L4 H4
  have G5 := G1.trans H5
  obtain ⟨wT, hwT⟩ : ∃ wT, wT = ((w5.alloc (.cells #[.int .i64 1, .int .i64 2, .int .i64 1] 3)).alloc (.cells #[.slice (some ⟨w5.heap.size, 0, none⟩) 3 3] 25)).alloc (.cells #[.int .i64 1] 3) := ⟨_, rfl⟩
  have GT : Gr w5 wT := by rw [hwT]; exact (((Gr.refl _).alloc _).alloc _).alloc _
  have c0 : Blk wT w5.heap.size 3 #[.int .i64 1, .int .i64 2, .int .i64 1] := by rw [hwT]; exact (Blk.new rfl).gr (((Gr.refl _).alloc _).alloc _)
  have c1 : Blk wT (w5.heap.size + 1) 25 #[.slice (some ⟨w5.heap.size, 0, none⟩) 3 3] := by rw [hwT]; exact (Blk.new (by simp)).gr ((Gr.refl _).alloc _)
  have c2 : Blk wT (w5.heap.size + 1 + 1) 3 #[.int .i64 1] := by rw [hwT]; exact (Blk.new (by simp))
  have j0 : Ints wT (.slice (some ⟨w5.heap.size, 0, none⟩) 3 3) [1, 2, 1] := Ints.blkl c0 rfl rfl (by decide) (by simp)
  have j2 : Ints wT (.slice (some ⟨w5.heap.size + 1 + 1, 0, none⟩) 1 1) [1] := Ints.blkl c2 rfl rfl (by decide) (by simp)
  have jR : Rd rowK wT (.slice (some ⟨w5.heap.size + 1, 0, none⟩) 1 1) [[1, 2, 1]] := Rd.blkRows c1 rfl (by simp) fun i hi => by
    obtain rfl : i = 0 := by simpa using hi
    exact ⟨_, rfl, by rw [ix_zero]; exact j0⟩
  clear c0 c1 c2 j0
  go_wp2_with fail
  rw [← hwT]
  clear hwT
  refine (Onto_calls _ _ [[1, 2, 1]] [1] _ jR j2 (by simp) (by simp)).mono ?_
  rw [E5.out]; rintro _ w6 ⟨v6, rfl, o6, g6⟩
  have i6 := o6.rd
  clear o6
  obtain ⟨a6, m6, rfl, _, _⟩ := i6.len
  simp only [List.length_cons, List.length_nil, Nat.zero_add] at *
  have G6 := (G5.trans GT).trans g6
  obtain ⟨wU, hwU⟩ : ∃ wU, wU = (w6.alloc (.cells #[.int .i64 1, .int .i64 1] 3)).alloc (.cells #[.slice (some ⟨w6.heap.size, 0, none⟩) 2 2] 25) := ⟨_, rfl⟩
  have GU : Gr w6 wU := by rw [hwU]; exact ((Gr.refl _).alloc _).alloc _
  have c0 : Blk wU w6.heap.size 3 #[.int .i64 1, .int .i64 1] := by rw [hwU]; exact (Blk.new rfl).gr ((Gr.refl _).alloc _)
  have c1 : Blk wU (w6.heap.size + 1) 25 #[.slice (some ⟨w6.heap.size, 0, none⟩) 2 2] := by rw [hwU]; exact (Blk.new (by simp))
  have j0 : Ints wU (.slice (some ⟨w6.heap.size, 0, none⟩) 2 2) [1, 1] := Ints.blkl c0 rfl rfl (by decide) (by simp)
  have jS : Rd rowK wU (.slice (some ⟨w6.heap.size + 1, 0, none⟩) 1 1) [[1, 1]] := Rd.blkRows c1 rfl (by simp) fun i hi => by
    obtain rfl : i = 0 := by simpa using hi
    exact ⟨_, rfl, by rw [ix_zero]; exact j0⟩
  clear c0 c1 j0
  go_wp2_with fail
  rw [← hwU]
  clear hwU
  refine (SameLists_self _ _ [[1, 1]] _ (i6.gr GU) jS).mono ?_
  rintro _ w7 ⟨rfl, g7⟩
  go_wp2_with fail
  go_ret
  exact ⟨rfl, (G6.trans GU).trans g7⟩
end Go.Proofs.Ytkanaoebpajbfaa
