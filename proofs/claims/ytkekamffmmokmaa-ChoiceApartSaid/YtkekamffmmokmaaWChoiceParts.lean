/- The call ChoiceParts answers true at any net and numbers that read as data; nothing that lay there turns. -/
import Derived.Test.YtkekamffmmokmaaAlive14
import Derived.Test.YtkekamffmmokmaaGM
namespace Go.Tok
open Go.RowKit
theorem sorted_perm_eq : ∀ {l r : List Int}, l.Perm r → l.Pairwise (· ≤ ·) → r.Pairwise (· ≤ ·) → l = r := by
  intro l
  induction l with
  | nil => intro r hp _ _; exact (List.nil_perm.1 hp).symm
  | cons a t ih =>
    intro r hp h1 h2
    cases r with
    | nil => exact absurd (List.perm_nil.1 hp) (by simp)
    | cons b s =>
      rw [List.pairwise_cons] at h1 h2
      have hab : a = b := by
        have ha : a ∈ b :: s := hp.mem_iff.1 (by simp)
        have hb : b ∈ a :: t := hp.mem_iff.2 (by simp)
        rcases List.mem_cons.1 ha with e | e
        · exact e
        · rcases List.mem_cons.1 hb with e' | e'
          · exact e'.symm
          · have := h2.1 a e
            have := h1.1 b e'
            omega
      subst hab
      rw [ih (List.Perm.cons_inv hp) h1.2 h2.2]
def rangeI (n : Nat) : List Int := (List.range n).map Int.ofNat
theorem rangeI_len (n : Nat) : (rangeI n).length = n := by simp [rangeI]
theorem rangeI_nth {n k : Nat} (h : k < n) : nth (rangeI n) k = k := by
  rw [nth_lt (by rw [rangeI_len]; exact h)]; simp [rangeI]
theorem sort_range {l : List Int} {n : Nat} (h : l.Perm (rangeI n)) : sortI l = rangeI n := by
  refine sorted_perm_eq ((sortI_perm l).trans h) (sortI_sorted l) ?_
  unfold rangeI
  rw [List.pairwise_map]
  exact List.pairwise_lt_range.imp fun h => by simp; omega
end Go.Tok
namespace Go.Proofs.Ytkekamffmmokmaa
open Go.RowKit Go.Tok
set_option linter.unusedVariables false
set_option linter.unusedSimpArgs false
theorem ans_bad {N : NetD} {out : List (List Int)} (h : ClusAns N out) (h0 : netOkB N = false) : out = [] := by
  rcases h with ⟨_, h⟩ | ⟨h, _⟩
  · exact h
  · rw [h0] at h; cases h
theorem ans_perm {N : NetD} {out : List (List Int)} (h : ClusAns N out) (h0 : netOkB N = true) : out.Perm (clusN N N.trans.length) := by
  rcases h with ⟨h, _⟩ | ⟨_, h, _⟩
  · rw [h0] at h; cases h
  · exact h
theorem ans_flat {N : NetD} {out : List (List Int)} (h : ClusAns N out) (h0 : netOkB N = true) : out.flatten.Perm (rangeI N.trans.length) := (ans_perm h h0).flatten.trans (clus_perm N _)
/-- one of the lists has both -/
def bothB (i j : Int) (l : List Int) : Bool := hasB l i && hasB l j
theorem both_any {N : NetD} {out : List (List Int)} {i j : Nat} (h : ClusAns N out) (h0 : netOkB N = true) (hT : Tog N N.trans.length i j) : out.any (bothB i j) = true := by
  obtain ⟨l, hl, h1, h2⟩ := hT
  exact List.any_eq_true.2 ⟨l, (ans_perm h h0).mem_iff.2 hl, by simp [bothB, (hasB_iff _ _).2 h1, (hasB_iff _ _).2 h2]⟩
theorem Rd.mat {w : World} {v : Value} {l : List (List Int)} (h : Rd rowK w v l) : Mat w v l := by
  unfold Mat
  obtain ⟨a, cap, rfl, h1, h2⟩ := h.len
  refine ⟨a, cap, rfl, h1, by unfold maxLen; omega, fun e => ?_, fun i hi => ?_⟩
  · rcases h.form with ⟨e1, e2⟩ | ⟨ad, c, e1, _⟩
    · simp only [Value.slice.injEq] at e1; exact e1.2.2
    · simp only [Value.slice.injEq] at e1; rw [e] at e1; cases e1.1
  · obtain ⟨b, o, u, ha, hc, hI⟩ := h.row hi
    refine ⟨b, o, u, ha, hc, ?_⟩
    have : lrow l i = ix l i := by unfold lrow; rw [ix_def]; rfl
    rw [this]; exact hI
theorem ChoiceParts1_answers (w0 : World) (ib jb : Nat) (i j : Int) (xs : List (List Int)) (hi : w0.cell? ⟨ib, 0, none⟩ = some (.int .i64 i)) (hj : w0.cell? ⟨jb, 0, none⟩ = some (.int .i64 j)) :
    AnswersRow Try.prog 51 #[.pointer (some ⟨ib, 0, none⟩), .pointer (some ⟨jb, 0, none⟩)] xs (bothB i j) w0 := by
  intro W u l hl g hI
  obtain ⟨ua, uc, rfl, _, _⟩ := hI.len
  have ci := cell_gr hi g
  have cj := cell_gr hj g
  cases h1 : hasB l i
  · have HR := Lib.hid (show bothB i j l = false by simp [bothB, h1])
    go_enter Try.func51, Try.ntmps51
    go_wp2_with fail
    refine (Contains_calls _ l i _ hI).mono ?_
    rw [h1]; rintro _ _ ⟨rfl, rfl⟩
    go_wp2_with fail
    go_ret
    exact ⟨ret_bool HR.out.symm, Gr.refl _⟩
  · have HR := Lib.hid (show bothB i j l = hasB l j by simp [bothB, h1])
    go_enter Try.func51, Try.ntmps51
    go_wp2_with fail
    refine (Contains_calls _ l i _ hI).mono ?_
    rw [h1]; rintro _ _ ⟨rfl, rfl⟩
    go_wp2_with fail
    refine (Contains_calls _ l j _ hI).mono ?_
    rintro _ _ ⟨rfl, rfl⟩
    go_wp2_with fail
    go_ret
    exact ⟨ret_bool HR.out.symm, Gr.refl _⟩
set_option maxHeartbeats 8000000 in
set_option maxRecDepth 100000 in
theorem ChoiceParts_walk {v : Value} {N : NetD} {i j : Int} (w : World) (hN : NetR w v N) (hi : I64 i) (hj : I64 j) :
    Calls Try.prog 12 #[v, .int .i64 i, .int .i64 j] w fun e w' => e = .returned (.bool true) ∧ Gr w w' := by
  have hN' := hN
  obtain ⟨a, cap, rfl, hnl, hncap, hpl, hT⟩ := hN.open_
  have hpl1 := hpl.1
  have hpl2 := hpl.2
  have eg : ∀ args w, (callFunc 51 args).run Try.prog w = .ok (.enter 51 args) w := (Go.Proofs.enters_of Try.func51 (by kernel_rfl) rfl)
  go_enter Try.func12, Try.ntmps12
  go_wp2_with fail
  obtain ⟨wA, hwA⟩ : ∃ wA, wA = ((w.alloc (.cells #[.int .i64 N.places, .slice a N.trans.length cap] 24)).alloc (.cells #[.int .i64 i] 3)).alloc (.cells #[.int .i64 j] 3) := ⟨_, rfl⟩
  have GA : Gr w wA := by rw [hwA]; exact (((Gr.refl _).alloc _).alloc _).alloc _
  have bN : Blk wA w.heap.size 24 #[.int .i64 N.places, .slice a N.trans.length cap] := by rw [hwA]; exact (Blk.new rfl).gr (((Gr.refl _).alloc _).alloc _)
  have bI : Blk wA (w.heap.size + 1) 3 #[.int .i64 i] := by rw [hwA]; exact (Blk.new (by simp)).gr ((Gr.refl _).alloc _)
  have bJ : Blk wA (w.heap.size + 1 + 1) 3 #[.int .i64 j] := by rw [hwA]; exact Blk.new (by simp)
  rw [← hwA]
  refine (alive14_calls _).mono ?_
  rintro _ w1 ⟨rfl, g1⟩
  clear hwA
  replace bN := bN.gr g1
  replace bI := bI.gr g1
  replace bJ := bJ.gr g1
  have G1 := GA.trans g1
  have N0 := bN.cell (i := 0) (v := .int .i64 N.places) rfl
  have N1 := bN.cell (i := 1) (v := .slice a N.trans.length cap) rfl
  clear g1 GA
  go_wp2_with fail
  refine (Clusters_calls _ N _ (hN'.gr G1)).mono ?_
  rintro _ w2 ⟨v2, out, rfl, hans, hrd, g2⟩
  obtain ⟨ra, rc, rfl, -, -⟩ := hrd.len
  replace bN := bN.gr g2
  replace bI := bI.gr g2
  replace bJ := bJ.gr g2
  have G2 := G1.trans g2
  replace N0 := cell_gr N0 g2
  replace N1 := cell_gr N1 g2
  clear g2
  cases h0 : netOkB N
  · have e0 := wrongC_no h0
    obtain rfl := ans_bad hans h0
    clear h0
    go_wp2_with fail
    refine (Wrong_calls _ N _ (hN'.gr G2)).mono ?_
    rw [e0]; rintro _ w3 ⟨rfl, g3⟩
    go_wp2_with fail
    go_ret
    exact ⟨rfl, G2.trans g3⟩
  have e0 := wrongC_yes h0
  have h24 : N.trans.length ≤ 24 ∧ 0 ≤ N.places ∧ N.places ≤ 16 := by
    have h := h0
    unfold netOkB at h
    simp at h
    omega
  have hflat := ans_flat hans h0
  have hflen : out.flatten.length = N.trans.length := by rw [hflat.length_eq, rangeI_len]
  have hsort := sort_range hflat
  have HANS := Lib.hid hans
  have H0 := Lib.hid h0
  have HSORT := Lib.hid hsort
  clear hans h0 hflat hsort
  go_wp2_with fail
  refine (Wrong_calls _ N _ (hN'.gr G2)).mono ?_
  rw [e0]; rintro _ w3 ⟨rfl, g3⟩
  replace bN := bN.gr g3
  replace bI := bI.gr g3
  replace bJ := bJ.gr g3
  have G3 := G2.trans g3
  replace hrd := hrd.gr g3
  clear g3 N0 N1
  go_wp2_with fail
  refine (Concat_calls _ out _ (Rd.mat hrd) (by omega)).mono ?_
  rintro _ w4 ⟨v4, rfl, o4, g4⟩
  have step : ∃ aa ac, v4 = .slice aa N.trans.length ac ∧ Calls Try.prog 50 #[v4] w4 fun e w' => e = .returned (.tuple #[]) ∧ Ints w' v4 (rangeI N.trans.length) ∧ Gr w3 w' := by
    rcases o4.form with ⟨rfl, h⟩ | ⟨g, c, rfl, h1, h2, h3, h4⟩
    · have : N.trans.length = 0 := by rw [← hflen, h]; rfl
      refine ⟨none, 0, by rw [this], (Sort_nil undef _).mono ?_⟩
      rintro _ _ ⟨rfl, rfl⟩
      rw [this]
      exact ⟨rfl, Ints.nil _, g4⟩
    · refine ⟨_, _, by rw [hflen], (Sort_calls g c _ out.flatten _ o4 (by omega)).mono ?_⟩
      rintro _ w5 ⟨rfl, o5, g5⟩
      rw [HSORT.out] at o5
      exact ⟨rfl, o5.ints, g4.grown g5 fun k hk => by cases hk; exact h1⟩
  obtain ⟨aa, ac, rfl, hstep⟩ := step
  have HFL := Lib.hid hflen
  clear o4 g4 hflen
  go_wp2_with fail
  refine hstep.mono ?_
  rintro _ w5 ⟨rfl, hall, g5⟩
  clear hstep
  replace bN := bN.gr g5
  replace bI := bI.gr g5
  replace bJ := bJ.gr g5
  replace hrd := hrd.gr g5
  have G5 := G3.trans g5
  clear g5
  have N0 := bN.cell (i := 0) (v := .int .i64 N.places) rfl
  have N1 := bN.cell (i := 1) (v := .slice a N.trans.length cap) rfl
  have I0 := bI.cell (i := 0) (v := .int .i64 i) rfl
  have J0 := bJ.cell (i := 0) (v := .int .i64 j) rfl
  go_wp2_with fail
  go_loop [29] (fun q => ∃ k : Nat, q = .int .i64 k ∧ k ≤ N.trans.length) (fun q => N.trans.length - (intOf q).toNat)
  case atStart => exact ⟨0, rfl, Nat.zero_le _⟩
  case round =>
    obtain ⟨k, rfl, hk⟩ := hrel
    by_cases hlt : k < N.trans.length
    · obtain ⟨rb, ro, rfl, c0⟩ := hall.cell (i := k) (by rw [rangeI_len]; exact hlt)
      rw [rangeI_nth hlt] at c0
      have hkI : (k : Int) < (N.trans.length : Int) := by omega
      have hkk : ((k : Int) != (k : Int)) = false := by simp
      go_wp2_with fail
      go_round
      case rel => exact ⟨k + 1, by go_num, hlt⟩
      case measure => simp [intOf]; omega
    · obtain rfl : k = N.trans.length := by omega
      have hnn : (((N.trans.length : Nat) : Int) != (N.trans.length : Int)) = false := by simp
      have hnn2 : (((N.trans.length : Nat) : Int) == (N.trans.length : Int)) = true := by simp
      clear hall
      by_cases i0 : i < 0
      · go_wp2_with fail
        go_ret
        exact ⟨rfl, G5⟩
      by_cases j0 : j < 0
      · go_wp2_with fail
        go_ret
        exact ⟨rfl, G5⟩
      by_cases i1 : (N.trans.length : Int) ≤ i
      · go_wp2_with fail
        go_ret
        exact ⟨rfl, G5⟩
      by_cases j1 : (N.trans.length : Int) ≤ j
      · go_wp2_with fail
        go_ret
        exact ⟨rfl, G5⟩
      obtain ⟨x, rfl⟩ := Int.eq_ofNat_of_zero_le (show 0 ≤ i by omega)
      obtain ⟨y, rfl⟩ := Int.eq_ofNat_of_zero_le (show 0 ≤ j by omega)
      obtain ⟨P, hP⟩ := Int.eq_ofNat_of_zero_le h24.2.1
      have hx : x < N.trans.length := by omega
      have hy : y < N.trans.length := by omega
      have hprex := (netOk_tr H0.out hx).pre
      have hprey := (netOk_tr H0.out hy).pre
      rw [hP] at N0 hprex hprey
      have HXL := Lib.hid (show (N.tr x).pre.length = P by omega)
      have HYL := Lib.hid (show (N.tr y).pre.length = P by omega)
      have HP : P ≤ 16 := by omega
      have hxI : (x : Int) < (N.trans.length : Int) := by omega
      have hyI : (y : Int) < (N.trans.length : Int) := by omega
      have hT5 := hT.gr G5
      obtain ⟨tb, tq, vp, vq, rfl, c0, c1, c2, hlab, hp, hq⟩ := hT5.at_ hx
      obtain ⟨tb', tq', up, uq, hb', d0, d1, d2, hlab', hp', hq'⟩ := hT5.at_ hy
      cases hb'
      obtain ⟨pa, pc, rfl, pl, pl'⟩ := hp.len
      obtain ⟨pa', pc', rfl, pl2, pl2'⟩ := hp'.len
      rw [HXL.out] at c1 hp pl
      rw [HYL.out] at d1 hp' pl2
      obtain ⟨tg, htg⟩ : ∃ b, b = out.any (bothB x y) := ⟨_, rfl⟩
      have HTOG := Lib.hid (show sharesB (N.tr x) (N.tr y) = true ∨ x = y → tg = true from fun h => by
        rw [htg]
        refine both_any HANS.out H0.out ?_
        rcases h with h | h
        · exact tog_shares H0.out _ (Nat.le_refl _) x y hx hy h
        · rw [← h]; exact tog_self hx)
      have HTG := Lib.hid htg
      clear htg i0 j0 i1 j1 hprex hprey c0 c2 d0 d2 hP h24
      go_wp2_with fail
      refine (ContainsFuncRow_calls _ out _ _ _ _ eg hrd (ChoiceParts1_answers _ _ _ _ _ out I0 J0)).mono ?_
      rw [← HTG.out]
      rintro _ w6 ⟨rfl, g6⟩
      have G6 := G5.trans g6
      replace N0 := cell_gr N0 g6
      replace N1 := cell_gr N1 g6
      replace I0 := cell_gr I0 g6
      replace J0 := cell_gr J0 g6
      replace c1 := cell_gr c1 g6
      replace d1 := cell_gr d1 g6
      replace hp := hp.gr g6
      replace hp' := hp'.gr g6
      clear g6 G5 hT5 hrd bN bI bJ
      go_wp2_with fail
      go_loop [75] (fun q => ∃ k : Nat, q = .int .i64 k ∧ k ≤ P) (fun q => P - (intOf q).toNat)
      case atStart => exact ⟨0, rfl, Nat.zero_le _⟩
      case round =>
        obtain ⟨k, rfl, hk⟩ := hrel
        by_cases hlt : k < P
        · obtain ⟨eb, eo, rfl, e1⟩ := hp.cell (i := k) (by rw [HXL.out]; exact hlt)
          obtain ⟨fb, fo, rfl, f1⟩ := hp'.cell (i := k) (by rw [HYL.out]; exact hlt)
          have hkI : (k : Int) < (P : Int) := by omega
          by_cases q1 : 0 < nth (N.tr x).pre k
          · have p1 : decide (0 < nth (N.tr x).pre k) = true := by simpa using q1
            by_cases q2 : 0 < nth (N.tr y).pre k
            · have p2 : decide (0 < nth (N.tr y).pre k) = true := by simpa using q2
              have htt : tg = true := HTOG.out (.inl (shares_iff.2 ⟨k, by rw [HXL.out]; exact hlt, q1, q2⟩))
              subst htt
              clear q1 q2
              go_wp2_with fail
              go_round
              case rel => exact ⟨k + 1, by go_num, hlt⟩
              case measure => simp [intOf]; omega
            · have p2 : decide (0 < nth (N.tr y).pre k) = false := by simpa using q2
              clear q1 q2
              go_wp2_with fail
              go_round
              case rel => exact ⟨k + 1, by go_num, hlt⟩
              case measure => simp [intOf]; omega
          · have p1 : decide (0 < nth (N.tr x).pre k) = false := by simpa using q1
            clear q1
            go_wp2_with fail
            go_round
            case rel => exact ⟨k + 1, by go_num, hlt⟩
            case measure => simp [intOf]; omega
        · obtain rfl : k = P := by omega
          by_cases hxy : x = y
          · have htt : tg = true := HTOG.out (.inr hxy)
            subst htt
            have q1 : ((x : Int) != (y : Int)) = false := by simp [hxy]
            clear hxy
            go_wp2_with fail
            go_ret
            exact ⟨rfl, G6⟩
          · have q1 : ((x : Int) != (y : Int)) = true := by simp; omega
            clear hxy
            go_wp2_with fail
            go_ret
            exact ⟨rfl, G6⟩
end Go.Proofs.Ytkekamffmmokmaa
