/- The law TracksSum's walk: it answers true. -/
import Derived.Test.YtkanaoebpajbfaaAlive22
import Derived.Test.YtkanaoebpajbfaaOpenM
import Derived.Test.YtkanaoebpajbfaaTSum1
import Derived.Test.YtkanaoebpajbfaaConcatM
import Derived.Test.YtkanaoebpajbfaaConcatP
import Derived.Deep.RegionHeld3
namespace Go.Proofs.Ytkanaoebpajbfaa
open Go.RowKit Go.Tok Go.Lib
set_option linter.unusedVariables false
set_option maxHeartbeats 1000000 in
set_option maxRecDepth 100000 in
theorem TracksSum_walk {v u : Value} {la lb : List (List Int)} (w : World) (hv0 : LogR w v la) (hu0 : LogR w u lb) : Calls Try.prog 7 #[v, u] w fun e w' => e = .returned (.bool true) ∧ Gr w w' := by
  have hv := hv0.rd
  have hu := hu0.rd
  have hsum : [lb, la].flatten.length ≤ 11728124029610 := by have := hv0.le; have := hu0.le; simp; omega
  have hflat : [lb, la].flatten = lb ++ la := by simp
  have HSUM := Lib.hid hsum
  have HFLAT := Lib.hid hflat
  clear hv0 hu0 hsum hflat
  obtain ⟨a, cap, rfl, hlc, hcap⟩ := hv.len
  obtain ⟨b, bcap, rfl, hlb, hbcap⟩ := hu.len
  go_enter Try.func7, Try.ntmps7
  go_wp2_with fail
  refine (alive22_calls _).mono ?_
  rintro _ w1 ⟨rfl, g1⟩
  go_wp2_with fail
  refine (Of_calls _ la _ (hv.gr g1)).mono ?_
  rintro _ w2 ⟨v1, v2, v3, v4, rfl, o1, o2, o3, o4, g2⟩
  have i1 := o1.ints
  have i2 := o2.ints
  have i3 := o3.ints
  have i4 := own_rdP o4
  have G2 := g1.trans g2
  clear o1 o2 o3 o4 g1 g2
  have HSM := Lib.hid (fun h => of_small (log := la) h)
  have HSN := Lib.hid (fun h => of_small (log := lb) h)
  have HS := Lib.hid (fun h h' => sum_said (a := la) (b := lb) h h')
  obtain ⟨X, x, hX⟩ : ∃ X x, ofT la = (X, x) := ⟨_, _, rfl⟩
  rw [hX] at i1 i2 i3 i4 HSM HS ⊢
  obtain ⟨Y, y, hY⟩ : ∃ Y y, ofT lb = (Y, y) := ⟨_, _, rfl⟩
  obtain ⟨Z, z, hZ⟩ : ∃ Z z, ofT (lb ++ la) = (Z, z) := ⟨_, _, rfl⟩
  rw [hY] at HSN HS
  rw [hZ] at HS
  have HY := Lib.hid hY
  have HZ := Lib.hid hZ
  clear hX hY hZ
  dsimp only at i1 i2 i3 i4 HSM HSN HS ⊢
  obtain ⟨a1, m1, rfl, _, _⟩ := i1.len
  generalize hn1 : X.labels.length = n1
  rw [hn1] at i1
  clear hn1
  obtain ⟨a2, m2, rfl, _, _⟩ := i2.len
  generalize hn2 : X.first.length = n2
  rw [hn2] at i2
  clear hn2
  obtain ⟨a3, m3, rfl, _, _⟩ := i3.len
  generalize hn3 : X.last.length = n3
  rw [hn3] at i3
  clear hn3
  obtain ⟨a4, m4, rfl, _, _⟩ := i4.len
  generalize hn4 : X.behind.length = n4
  rw [hn4] at i4
  clear hn4
  have B1 : Blk (w2.alloc (.cells #[.slice a1 n1 m1, .slice a2 n2 m2, .slice a3 n3 m3, .slice a4 n4 m4] 66)) w2.heap.size 66 #[.slice a1 n1 m1, .slice a2 n2 m2, .slice a3 n3 m3, .slice a4 n4 m4] := Blk.new rfl
  have GA : Gr w2 (w2.alloc (.cells #[.slice a1 n1 m1, .slice a2 n2 m2, .slice a3 n3 m3, .slice a4 n4 m4] 66)) := (Gr.refl _).alloc _
  go_wp2_with fail
  refine (Of_calls _ lb _ (hu.gr (G2.trans GA))).mono ?_
  rintro _ w3 ⟨v5, v6, v7, v8, rfl, o5, o6, o7, o8, g3⟩
  have i5 := o5.ints
  have i6 := o6.ints
  have i7 := o7.ints
  have i8 := own_rdP o8
  rw [HY.out] at i5 i6 i7 i8 ⊢
  dsimp only at i5 i6 i7 i8 ⊢
  have G3 := GA.trans g3
  have B13 := B1.gr g3
  have j1 := i1.gr G3
  have j2 := i2.gr G3
  have j3 := i3.gr G3
  have j4 := i4.gr G3
  have GW3 := G2.trans G3
  clear o5 o6 o7 o8 g3 B1 GA i1 i2 i3 i4 G2 G3
  obtain ⟨a5, m5, rfl, _, _⟩ := i5.len
  generalize hn5 : Y.labels.length = n5
  rw [hn5] at i5
  clear hn5
  obtain ⟨a6, m6, rfl, _, _⟩ := i6.len
  generalize hn6 : Y.first.length = n6
  rw [hn6] at i6
  clear hn6
  obtain ⟨a7, m7, rfl, _, _⟩ := i7.len
  generalize hn7 : Y.last.length = n7
  rw [hn7] at i7
  clear hn7
  obtain ⟨a8, m8, rfl, _, _⟩ := i8.len
  generalize hn8 : Y.behind.length = n8
  rw [hn8] at i8
  clear hn8
  have B2 : Blk (w3.alloc (.cells #[.slice a5 n5 m5, .slice a6 n6 m6, .slice a7 n7 m7, .slice a8 n8 m8] 66)) w3.heap.size 66 #[.slice a5 n5 m5, .slice a6 n6 m6, .slice a7 n7 m7, .slice a8 n8 m8] := Blk.new rfl
  have GB : Gr w3 (w3.alloc (.cells #[.slice a5 n5 m5, .slice a6 n6 m6, .slice a7 n7 m7, .slice a8 n8 m8] 66)) := (Gr.refl _).alloc _
  have HLIT := Lib.hid (fun (u : World) (H : Nat) (hg : Gr w u) (hH : u.heap.size = H) => MatK.lit2 (t := 36) hH (hu.gr hg) (hv.gr hg))
  have hz3 : (w3.alloc (.cells #[.slice a5 n5 m5, .slice a6 n6 m6, .slice a7 n7 m7, .slice a8 n8 m8] 66)).heap.size = w3.heap.size + 1 := by simp
  have MM := Lib.hid (HLIT.out _ _ (GW3.trans GB) hz3)
  clear hz3
  go_wp2_with fail
  refine (ConcatM_calls _ [lb, la] _ MM.out HSUM.out).mono ?_
  rintro _ w4 ⟨v9, rfl, r9, g4⟩
  rw [HFLAT.out] at r9
  go_wp2_with fail
  refine (Of_calls _ (lb ++ la) _ r9).mono ?_
  rintro _ w5 ⟨v10, v11, v12, v13, rfl, o5, o6, o7, o8, g5⟩
  have i9 := o5.ints
  have i10 := o6.ints
  have i11 := o7.ints
  have i12 := own_rdP o8
  rw [HZ.out] at i9 i10 i11 i12 ⊢
  dsimp only at i9 i10 i11 i12 ⊢
  have G5 : Gr w3 w5 := by (repeat (first | exact Gr.refl _ | assumption | apply Gr.alloc | apply Gr.drew | apply Gr.drewN | refine Gr.trans ?_ (by assumption)))
  have GW5 := GW3.trans G5
  have B15 := B13.gr G5
  have B25 := B2.gr (((Gr.refl _).alloc _).trans (g4.trans g5))
  replace j1 := j1.gr G5
  replace j2 := j2.gr G5
  replace j3 := j3.gr G5
  replace j4 := j4.gr G5
  have j5 := i5.gr G5
  have j6 := i6.gr G5
  have j7 := i7.gr G5
  have j8 := i8.gr G5
  clear o5 o6 o7 o8 g4 g5 r9 B13 B2 GB i5 i6 i7 i8 G5 GW3 hv hu
  obtain ⟨a9, m9, rfl, _, _⟩ := i9.len
  generalize hn9 : Z.labels.length = n9
  rw [hn9] at i9
  clear hn9
  obtain ⟨a10, m10, rfl, _, _⟩ := i10.len
  generalize hn10 : Z.first.length = n10
  rw [hn10] at i10
  clear hn10
  obtain ⟨a11, m11, rfl, _, _⟩ := i11.len
  generalize hn11 : Z.last.length = n11
  rw [hn11] at i11
  clear hn11
  obtain ⟨a12, m12, rfl, _, _⟩ := i12.len
  generalize hn12 : Z.behind.length = n12
  rw [hn12] at i12
  clear hn12
  have B3 : Blk (w5.alloc (.cells #[.slice a9 n9 m9, .slice a10 n10 m10, .slice a11 n11 m11, .slice a12 n12 m12] 66)) w5.heap.size 66 #[.slice a9 n9 m9, .slice a10 n10 m10, .slice a11 n11 m11, .slice a12 n12 m12] := Blk.new rfl
  have GC : Gr w5 (w5.alloc (.cells #[.slice a9 n9 m9, .slice a10 n10 m10, .slice a11 n11 m11, .slice a12 n12 m12] 66)) := (Gr.refl _).alloc _
  by_cases hx : x = 0
  case neg =>
    have q1 : (x != 0) = true := by simpa using hx
    have q2 : (x == 0) = false := by simpa using hx
    clear hx
    go_wp2_with fail
    go_ret
    exact ⟨rfl, GW5.trans GC⟩
  subst hx
  by_cases hy : y = 0
  case neg =>
    have q1 : (y != 0) = true := by simpa using hy
    have q2 : (y == 0) = false := by simpa using hy
    clear hy
    go_wp2_with fail
    go_ret
    exact ⟨rfl, GW5.trans GC⟩
  subst hy
  rcases HS.out rfl rfl with ⟨rfl, hS⟩ | rfl
  case inr =>
    go_wp2_with fail
    go_ret
    exact ⟨rfl, GW5.trans GC⟩
  have HX := Lib.hid (HSM.out rfl)
  have HV := Lib.hid (HSN.out rfl)
  have HSS := Lib.hid hS
  clear HS HSM HSN hS HSUM HFLAT HLIT MM HY HZ
  have P0 := (B15.gr GC).cell (i := 0) (v := .slice a1 n1 m1) rfl
  have P1 := (B15.gr GC).cell (i := 1) (v := .slice a2 n2 m2) rfl
  have P2 := (B15.gr GC).cell (i := 2) (v := .slice a3 n3 m3) rfl
  have P3 := (B15.gr GC).cell (i := 3) (v := .slice a4 n4 m4) rfl
  have Q0 := (B25.gr GC).cell (i := 0) (v := .slice a5 n5 m5) rfl
  have Q1 := (B25.gr GC).cell (i := 1) (v := .slice a6 n6 m6) rfl
  have Q2 := (B25.gr GC).cell (i := 2) (v := .slice a7 n7 m7) rfl
  have Q3 := (B25.gr GC).cell (i := 3) (v := .slice a8 n8 m8) rfl
  have R0 := B3.cell (i := 0) (v := .slice a9 n9 m9) rfl
  have R1 := B3.cell (i := 1) (v := .slice a10 n10 m10) rfl
  have R2 := B3.cell (i := 2) (v := .slice a11 n11 m11) rfl
  have R3 := B3.cell (i := 3) (v := .slice a12 n12 m12) rfl
  have hfl : [X.behind, Y.behind].flatten = X.behind ++ Y.behind := by simp
  have hfn : (X.behind ++ Y.behind).length ≤ 2000 := by rw [List.length_append]; have := HX.out.2; have := HV.out.2; omega
  have HFL := Lib.hid hfl
  have HFN := Lib.hid hfn
  clear hfl hfn
  have hz6 : (w5.alloc (.cells #[.slice a9 n9 m9, .slice a10 n10 m10, .slice a11 n11 m11, .slice a12 n12 m12] 66)).heap.size = w5.heap.size + 1 := by simp
  have M6 := Lib.hid (MatK.lit2 (t := 64) hz6 (j4.gr GC) (j8.gr GC))
  clear hz6
  have HN7 : Hid ([X.behind, Y.behind].flatten.length ≤ 2513169434916) := Lib.hid (by rw [HFL.out]; have := HFN.out; omega)
  go_wp2_with fail
  refine (ConcatP_calls _ [X.behind, Y.behind] _ M6.out HN7.out).mono ?_
  rintro _ w7 ⟨v14, rfl, o9, g7⟩
  rw [HFL.out] at o9
  have G7 := ((Gr.refl (w5.alloc (.cells #[.slice a9 n9 m9, .slice a10 n10 m10, .slice a11 n11 m11, .slice a12 n12 m12] 66))).alloc (.cells #[.slice a4 n4 m4, .slice a8 n8 m8] 64)).trans g7
  have K7 := o9.low (show (w5.alloc (.cells #[.slice a9 n9 m9, .slice a10 n10 m10, .slice a11 n11 m11, .slice a12 n12 m12] 66)).heap.size ≤ _ from ((Gr.refl _).alloc _).le)
  obtain ⟨w6, hw6⟩ : ∃ w6, w6 = w5.alloc (.cells #[.slice a9 n9 m9, .slice a10 n10 m10, .slice a11 n11 m11, .slice a12 n12 m12] 66) := ⟨_, rfl⟩
  rw [← hw6] at P0 P1 P2 P3 Q0 Q1 Q2 Q3 R0 R1 R2 R3 GC G7 K7
  have GW6 := GW5.trans GC
  have HU1 := Lib.hid (fun w' (g : Gr w6 w') => (union_calls (.slice a1 n1 m1) (.slice a5 n5 m5) X.labels Y.labels w' (j1.gr (GC.trans g)) (j5.gr (GC.trans g)) (by have := HX.out; have := HV.out; omega)))
  have HU2 := Lib.hid (fun w' (g : Gr w6 w') => (union_calls (.slice a2 n2 m2) (.slice a6 n6 m6) X.first Y.first w' (j2.gr (GC.trans g)) (j6.gr (GC.trans g)) (by have := HX.out; have := HV.out; omega)))
  have HU3 := Lib.hid (fun w' (g : Gr w6 w') => (union_calls (.slice a3 n3 m3) (.slice a7 n7 m7) X.last Y.last w' (j3.gr (GC.trans g)) (j7.gr (GC.trans g)) (by have := HX.out; have := HV.out; omega)))
  rw [← HSS.out.labels] at HU1
  rw [← HSS.out.first] at HU2
  rw [← HSS.out.last] at HU3
  have HE1 := Lib.hid (fun (w' : World) (u : Value) (g : Gr w6 w') (h : Ints w' u Z.labels) => Equal_calls (.slice a9 n9 m9) u Z.labels Z.labels w' (i9.gr (GC.trans g)) h)
  have HE2 := Lib.hid (fun (w' : World) (u : Value) (g : Gr w6 w') (h : Ints w' u Z.first) => Equal_calls (.slice a10 n10 m10) u Z.first Z.first w' (i10.gr (GC.trans g)) h)
  have HE3 := Lib.hid (fun (w' : World) (u : Value) (g : Gr w6 w') (h : Ints w' u Z.last) => Equal_calls (.slice a11 n11 m11) u Z.last Z.last w' (i11.gr (GC.trans g)) h)
  have HE4 := Lib.hid (fun (w' : World) (u : Value) (g : Gr w6 w') (h : Rd pairK w' u Z.behind) => EqualP_calls (.slice a12 n12 m12) u Z.behind Z.behind w' (i12.gr (GC.trans g)) h)
  rw [eqB_yes rfl] at HE1 HE2 HE3
  rw [show decide (Z.behind = Z.behind) = true by simp] at HE4
  have KS : Hid (∀ w', Gr w6 w' → (w'.cell? ⟨w2.heap.size, 0, none⟩ = some (.slice a1 n1 m1) ∧ w'.cell? ⟨w2.heap.size, 1, none⟩ = some (.slice a2 n2 m2) ∧ w'.cell? ⟨w2.heap.size, 2, none⟩ = some (.slice a3 n3 m3) ∧ w'.cell? ⟨w3.heap.size, 0, none⟩ = some (.slice a5 n5 m5) ∧ w'.cell? ⟨w3.heap.size, 1, none⟩ = some (.slice a6 n6 m6) ∧ w'.cell? ⟨w3.heap.size, 2, none⟩ = some (.slice a7 n7 m7) ∧ w'.cell? ⟨w5.heap.size, 0, none⟩ = some (.slice a9 n9 m9) ∧ w'.cell? ⟨w5.heap.size, 1, none⟩ = some (.slice a10 n10 m10) ∧ w'.cell? ⟨w5.heap.size, 2, none⟩ = some (.slice a11 n11 m11) ∧ w'.cell? ⟨w5.heap.size, 3, none⟩ = some (.slice a12 n12 m12))) := Lib.hid fun w' g => ⟨cell_gr P0 g, cell_gr P1 g, cell_gr P2 g, cell_gr Q0 g, cell_gr Q1 g, cell_gr Q2 g, cell_gr R0 g, cell_gr R1 g, cell_gr R2 g, cell_gr R3 g⟩
  have HSO := Lib.hid (sortPairs_calls v14 _ (X.behind ++ Y.behind) w6 w7 K7 (by have := HFN.out; omega) G7 (Nat.le_refl _))
  clear P0 P1 P2 P3 Q0 Q1 Q2 Q3 R0 R1 R2 R3 GC G7 K7 j1 j2 j3 j4 j5 j6 j7 j8 i9 i10 i11 i12 B15 B25 B3 GW5 o9 g7 hw6 HX HV HN7 M6
  go_wp2_with fail
  refine HSO.out.mono ?_
  rintro _ w8 ⟨rfl, o8, g8⟩
  have HC := Lib.hid (fun w' (g : Gr w8 w') => compactPairs_calls v14 _ (sortP (X.behind ++ Y.behind)) w6 w' (o8.gr g) (g8.trans g) (Nat.le_refl _))
  rw [← HSS.out.behind] at HC
  clear HSO o8
  go_wp2_with fail
  go_region_held3 (fun w' => (w'.cell? ⟨w2.heap.size, 0, none⟩ = some (.slice a1 n1 m1) ∧ w'.cell? ⟨w2.heap.size, 1, none⟩ = some (.slice a2 n2 m2) ∧ w'.cell? ⟨w2.heap.size, 2, none⟩ = some (.slice a3 n3 m3) ∧ w'.cell? ⟨w3.heap.size, 0, none⟩ = some (.slice a5 n5 m5) ∧ w'.cell? ⟨w3.heap.size, 1, none⟩ = some (.slice a6 n6 m6) ∧ w'.cell? ⟨w3.heap.size, 2, none⟩ = some (.slice a7 n7 m7) ∧ w'.cell? ⟨w5.heap.size, 0, none⟩ = some (.slice a9 n9 m9) ∧ w'.cell? ⟨w5.heap.size, 1, none⟩ = some (.slice a10 n10 m10) ∧ w'.cell? ⟨w5.heap.size, 2, none⟩ = some (.slice a11 n11 m11) ∧ w'.cell? ⟨w5.heap.size, 3, none⟩ = some (.slice a12 n12 m12))) (first | ((refine KS.out _ ?_); ((focus ((repeat (first | exact Gr.refl _ | assumption | apply Gr.alloc | apply Gr.drew | apply Gr.drewN | refine Gr.trans ?_ (by assumption))); done))))) (first | (go_at_call 35; (with_reducible refine (HU1.out _ ?_).mono ?_); ((focus ((repeat (first | exact Gr.refl _ | assumption | apply Gr.alloc | apply Gr.drew | apply Gr.drewN | refine Gr.trans ?_ (by assumption))); done))); rintro _ wu1 ⟨vu1, rfl, iu1, gu1⟩) | (go_at_call 18; (with_reducible refine (HE1.out _ _ ?_ (iu1.gr ?_)).mono ?_); ((focus ((repeat (first | exact Gr.refl _ | assumption | apply Gr.alloc | apply Gr.drew | apply Gr.drewN | refine Gr.trans ?_ (by assumption))); done))); ((focus ((repeat (first | exact Gr.refl _ | assumption | apply Gr.alloc | apply Gr.drew | apply Gr.drewN | refine Gr.trans ?_ (by assumption))); done))); rintro _ we1 ⟨rfl, ge1⟩) | (go_at_call 35; (with_reducible refine (HU2.out _ ?_).mono ?_); ((focus ((repeat (first | exact Gr.refl _ | assumption | apply Gr.alloc | apply Gr.drew | apply Gr.drewN | refine Gr.trans ?_ (by assumption))); done))); rintro _ wu2 ⟨vu2, rfl, iu2, gu2⟩) | (go_at_call 18; (with_reducible refine (HE2.out _ _ ?_ (iu2.gr ?_)).mono ?_); ((focus ((repeat (first | exact Gr.refl _ | assumption | apply Gr.alloc | apply Gr.drew | apply Gr.drewN | refine Gr.trans ?_ (by assumption))); done))); ((focus ((repeat (first | exact Gr.refl _ | assumption | apply Gr.alloc | apply Gr.drew | apply Gr.drewN | refine Gr.trans ?_ (by assumption))); done))); rintro _ we2 ⟨rfl, ge2⟩) | (go_at_call 35; (with_reducible refine (HU3.out _ ?_).mono ?_); ((focus ((repeat (first | exact Gr.refl _ | assumption | apply Gr.alloc | apply Gr.drew | apply Gr.drewN | refine Gr.trans ?_ (by assumption))); done))); rintro _ wu3 ⟨vu3, rfl, iu3, gu3⟩) | (go_at_call 18; (with_reducible refine (HE3.out _ _ ?_ (iu3.gr ?_)).mono ?_); ((focus ((repeat (first | exact Gr.refl _ | assumption | apply Gr.alloc | apply Gr.drew | apply Gr.drewN | refine Gr.trans ?_ (by assumption))); done))); ((focus ((repeat (first | exact Gr.refl _ | assumption | apply Gr.alloc | apply Gr.drew | apply Gr.drewN | refine Gr.trans ?_ (by assumption))); done))); rintro _ we3 ⟨rfl, ge3⟩) | (go_at_call 37; (with_reducible refine (HC.out _ ?_).mono ?_); ((focus ((repeat (first | exact Gr.refl _ | assumption | apply Gr.alloc | apply Gr.drew | apply Gr.drewN | refine Gr.trans ?_ (by assumption))); done))); rintro _ wc ⟨vc, rfl, ic, gc⟩) | (go_at_call 36; (with_reducible refine (HE4.out _ _ ?_ (ic.gr ?_)).mono ?_); ((focus ((repeat (first | exact Gr.refl _ | assumption | apply Gr.alloc | apply Gr.drew | apply Gr.drewN | refine Gr.trans ?_ (by assumption))); done))); ((focus ((repeat (first | exact Gr.refl _ | assumption | apply Gr.alloc | apply Gr.drew | apply Gr.drewN | refine Gr.trans ?_ (by assumption))); done))); rintro _ wf ⟨rfl, gf⟩))
  go_wp2_with fail
  go_ret
  exact ⟨rfl, GW6.trans (by (repeat (first | exact Gr.refl _ | assumption | apply Gr.alloc | apply Gr.drew | apply Gr.drewN | refine Gr.trans ?_ (by assumption))))⟩
end Go.Proofs.Ytkanaoebpajbfaa
