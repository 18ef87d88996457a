/- Contract of alive12: the law's own look at tongue. -/
import Derived.Test.YtajmccjnoejmfaaTong8
import Derived.Test.YtajmccjnoejmfaaAlive11
import Derived.Test.YtajmccjnoejmfaaSameRows
import Derived.Test.YtajmccjnoejmfaaBlkR
namespace Go.Proofs.Ytajmccjnoejmfaa
open Go.RowKit Go.Tok
set_option linter.unusedVariables false
abbrev net12 : NetD := ⟨6, [⟨0, [1, 0, 0, 0, 0, 0], [0, 0, 1, 0, 1, 0]⟩, ⟨1, [0, 0, 1, 0, 0, 0], [0, 0, 0, 1, 0, 0]⟩, ⟨2, [0, 0, 0, 0, 1, 0], [0, 0, 0, 0, 0, 1]⟩, ⟨0, [0, 0, 0, 1, 0, 1], [0, 1, 0, 0, 0, 0]⟩]⟩
abbrev sp12 : SpaceD := ⟨[[1, 0, 0, 0, 0, 0], [0, 0, 1, 0, 1, 0], [0, 0, 0, 1, 1, 0], [0, 0, 1, 0, 0, 1], [0, 0, 0, 1, 0, 1], [0, 1, 0, 0, 0, 0]], [⟨0, 0, 1⟩, ⟨1, 1, 2⟩, ⟨1, 2, 3⟩, ⟨2, 2, 4⟩, ⟨3, 1, 4⟩, ⟨4, 3, 5⟩]⟩
theorem sorted_perm_eq12 : ∀ {l r : List Int}, l.Perm r → l.Pairwise (· ≤ ·) → r.Pairwise (· ≤ ·) → l = r := by
  intro l
  induction l with
  | nil => intro r hp _ _; exact (List.nil_perm.1 hp).symm
  | cons a t ih =>
    intro r hp h1 h2
    cases r with
    | nil => exact absurd (List.perm_nil.1 hp) (by simp)
    | cons b s =>
      rw [List.pairwise_cons] at h1 h2
      have hab : a = b := by
        have ha : a ∈ b :: s := hp.mem_iff.1 (by simp)
        have hb : b ∈ a :: t := hp.mem_iff.2 (by simp)
        rcases List.mem_cons.1 ha with e | e
        · exact e
        · rcases List.mem_cons.1 hb with e' | e'
          · exact e'.symm
          · have := h2.1 a e
            have := h1.1 b e'
            omega
      subst hab
      rw [ih (List.Perm.cons_inv hp) h1.2 h2.2]
theorem grow12 : growN 2 (.mk 5 0 [.mk 2 1 [], .mk 2 2 []]) = (net12, 0) := by decide
theorem marks12 : (graphF net12 (oneN (startLen net12) 0) 300).1.marks = sp12.marks := by decide +kernel
theorem arcs12 : (graphF net12 (oneN (startLen net12) 0) 300).1.arcs = sp12.arcs := by decide +kernel
theorem err12 : hasErr net12 0 1 = 0 := by decide +kernel
theorem lets12 : Go.Lib.compact (sortI (labN net12)) = [0, 1, 2] := by
  have h : sortI (labN net12) = [0, 0, 1, 2] := sorted_perm_eq12 ((sortI_perm _).trans (show [0, 1, 2, 0].Perm [0, 0, 1, 2] by decide)) (sortI_sorted _) (by decide)
  rw [h]; decide +kernel
theorem space12 {A : SpaceD} {e : Int} (h : graphF net12 (oneN (startLen net12) 0) 300 = (A, e)) : A = sp12 := by
  have h1 := marks12
  have h2 := arcs12
  rw [h] at h1 h2
  cases A
  simp only [] at h1 h2
  rw [h1, h2]
theorem say12 : wordsN net12 1 4 sp12 = some [[1, 2], [2, 1]] := by
  unfold wordsN sayN
  rw [lets12]
  decide +kernel
theorem words12 {out : List (List Int)} {e : Int} (h : WordsIs net12 0 1 4 out e) : out = [[1, 2], [2, 1]] ∧ e = 0 := by
  rcases h with ⟨h, _⟩ | ⟨_, ⟨h, _⟩ | ⟨_, _, A, _, _, hg, h⟩⟩
  · exact absurd err12 h
  · omega
  · obtain rfl := space12 hg
    rw [say12] at h
    rcases h with ⟨h, _⟩ | ⟨h, he⟩
    · cases h
    · cases h; exact ⟨rfl, he⟩
theorem lst12 : leastN net12 1 sp12 = 2 := by
  unfold leastN sayN
  rw [lets12]
  decide +kernel
theorem least12 {k e : Int} (h : LeastIs net12 0 1 k e) : k = 2 ∧ e = 0 := by
  rcases h with ⟨h, _⟩ | ⟨_, A, _, _, hg, h⟩
  · exact absurd err12 h
  · obtain rfl := space12 hg
    rw [lst12] at h
    rcases h with ⟨h, _⟩ | ⟨_, h⟩
    · omega
    · exact h
theorem run12 : runL net12 (oneN (startLen net12) 0) [0, 2, 1, 3] = (oneN (startLen net12) 1, 0) := by decide +kernel
theorem has12 {b : Bool} (h : HasMeans net12 0 1 [2, 1] b) : b = true := by
  obtain ⟨_, h⟩ := h
  obtain ⟨a, c, s, ha, hc, _, _, hb⟩ := h err12
  obtain rfl : a = 0 := by omega
  obtain rfl : c = 1 := by omega
  rw [hb]
  exact ⟨[0, 2, 1, 3], runs_of (by decide +kernel) run12, by decide +kernel⟩
set_option maxHeartbeats 4000000 in
set_option maxRecDepth 100000 in
theorem alive12_calls (w : World) : Calls Try.prog 28 #[] w fun e w' => e = .returned (.bool true) ∧ Gr w w' := by
  go_enter Try.func28, Try.ntmps28
  go_wp2_with fail
  refine (kstep_calls 1 _).mono ?_
  rintro _ w1 ⟨rfl, g1⟩
  go_wp2_with fail
  refine (kstep_calls 2 _).mono ?_
  rintro _ w2 ⟨rfl, g2⟩
  go_wp2_with fail
  refine (kmany_calls 5 _ _ _ _).mono ?_
  rintro _ w3 ⟨rfl, g3⟩
  have hk := (two_kids (w := w2) (H := w2.heap.size) (t := 24) (x := 1) (y := 2) rfl (by decide) (by decide)).gr g3
  have hb : BlockR 1 w3 (.agg #[.int .i64 5, .int .i64 0, .slice (some ⟨w2.heap.size, 0, none⟩) 2 2]) (.mk 5 0 [.mk 2 1 [], .mk 2 2 []]) := ⟨_, rfl, by decide, by decide, hk⟩
  have GG : Gr w w3 := (g1.trans g2).trans (box_gr g3)
  go_wp2_with fail
  refine (Grow_calls 1 _ _ _ hb).mono ?_
  rintro _ w4 hr
  obtain ⟨v4, rfl, hN, g4⟩ := hr.out
  rw [grow12] at hN ⊢
  simp only [] at hN ⊢
  have hN' := hN
  obtain ⟨na, nc, rfl, hn1, hn2, _, hT⟩ := hN.open_
  have gx : Gr w4 (w4.alloc (.cells #[.int .i64 6, .slice na 4 nc] 28)) := (Gr.refl _).alloc _
  have nx : Blk (w4.alloc (.cells #[.int .i64 6, .slice na 4 nc] 28)) w4.heap.size 28 #[.int .i64 6, .slice na 4 nc] := Blk.new rfl
  have x0 := nx.cell (i := 0) (v := .int .i64 6) rfl
  have x1 := nx.cell (i := 1) (v := .slice na 4 nc) rfl
  have hNx := hN'.gr gx
  clear hT hN hk hb hr hn1
  simp only [List.length_cons, List.length_nil, Nat.zero_add, Nat.reduceAdd] at hNx ⊢
  go_wp2_with fail
  refine (Words_calls _ net12 0 1 4 _ hNx (by decide) (by decide) (by decide)).mono ?_
  rintro _ w5 ⟨v5, out, e5, rfl, g5, hR, hW⟩
  obtain ⟨rfl, rfl⟩ := words12 hW
  replace x0 := cell_gr x0 g5
  replace x1 := cell_gr x1 g5
  replace hNx := hNx.gr g5
  have GX := (GG.trans g4).trans (gx.trans g5)
  clear hW nx gx g5 g4 GG g1 g2 g3
  go_wp2_with fail
  obtain ⟨wl, hwl⟩ : ∃ wl, wl = w5.alloc (.cells #[.int .i64 2, .int .i64 1] 3) := ⟨_, rfl⟩
  have gl : Gr w5 wl := by rw [hwl]; exact (Gr.refl _).alloc _
  have hlit : Ints wl (.slice (some ⟨w5.heap.size, 0, none⟩) 2 2) [2, 1] := by rw [hwl]; exact Ints.lit rfl rfl rfl rfl (by decide) (by simp)
  rw [← hwl]
  clear hwl
  refine (Has_calls _ _ net12 0 1 [2, 1] _ (hNx.gr gl) (by decide) (by decide) hlit (by simp)).mono ?_
  rintro _ w6 ⟨b6, rfl, g6, hM⟩
  obtain rfl := has12 hM
  rw [err12]
  have G6 := gl.trans g6
  replace x0 := cell_gr x0 G6
  replace x1 := cell_gr x1 G6
  replace hNx := hNx.gr G6
  replace hR := hR.gr G6
  replace GX := GX.trans G6
  clear hM gl g6 hlit G6
  go_wp2_with fail
  refine (Least_calls _ net12 0 1 _ hNx (by decide) (by decide)).mono ?_
  rintro _ w7 ⟨k7, e7, rfl, g7, hL⟩
  obtain ⟨rfl, rfl⟩ := least12 hL
  replace hR := hR.gr g7
  replace GX := GX.trans g7
  obtain ⟨ra, rc, rfl, -, -⟩ := hR.len
  clear hL x0 x1 hNx g7
  obtain ⟨wT, hwT⟩ : ∃ wT, wT = ((w7.alloc (.cells #[.int .i64 1, .int .i64 2] 3)).alloc (.cells #[.int .i64 2, .int .i64 1] 3)).alloc (.cells #[(.slice (some ⟨w7.heap.size, 0, none⟩) 2 2), (.slice (some ⟨w7.heap.size + 1, 0, none⟩) 2 2)] 32) := ⟨_, rfl⟩
  have GT : Gr w7 wT := by rw [hwT]; exact (((Gr.refl _).alloc _).alloc _).alloc _
  have c0 : Blk wT (w7.heap.size) 3 #[.int .i64 1, .int .i64 2] := by rw [hwT]; exact (Blk.new rfl).gr (((Gr.refl _).alloc _).alloc _)
  have c1 : Blk wT (w7.heap.size + 1) 3 #[.int .i64 2, .int .i64 1] := by rw [hwT]; exact (Blk.new (by simp)).gr ((Gr.refl _).alloc _)
  have cT : Blk wT (w7.heap.size + 1 + 1) 32 #[(.slice (some ⟨w7.heap.size, 0, none⟩) 2 2), (.slice (some ⟨w7.heap.size + 1, 0, none⟩) 2 2)] := by rw [hwT]; exact (Blk.new (by simp))
  have j0 : Ints wT (.slice (some ⟨w7.heap.size, 0, none⟩) 2 2) [1, 2] := Ints.blkl c0 rfl rfl (by decide) (by simp)
  have j1 : Ints wT (.slice (some ⟨w7.heap.size + 1, 0, none⟩) 2 2) [2, 1] := Ints.blkl c1 rfl rfl (by decide) (by simp)
  have jR : Rd rowK wT (.slice (some ⟨w7.heap.size + 1 + 1, 0, none⟩) 2 2) [[1, 2], [2, 1]] := Rd.blkRows cT rfl (by simp) fun i hi => by
    have hi2 : i = 0 ∨ i = 1 := by simp at hi; omega
    rcases hi2 with rfl | rfl
    · exact ⟨_, rfl, by rw [ix_zero]; exact j0⟩
    · exact ⟨_, rfl, by rw [ix_succ, ix_zero]; exact j1⟩
  clear c0 c1 cT j0 j1
  go_wp2_with fail
  rw [← hwT]
  refine (SameLists_self _ _ _ _ (hR.gr GT) jR).mono ?_
  rintro _ w8 ⟨rfl, g8⟩
  clear hwT
  go_wp2_with fail
  go_ret
  exact ⟨rfl, GX.trans (GT.trans g8)⟩
end Go.Proofs.Ytajmccjnoejmfaa
