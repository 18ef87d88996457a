/- The call alive14 answers true, in whatever world; nothing that lay there turns. -/
import Derived.Test.YtajmccjnoejmfaaChoice4
import Derived.Test.YtajmccjnoejmfaaSameRows
import Derived.Test.YtajmccjnoejmfaaBlkR
namespace Go.Tok
theorem asc_perm2 {a b : List Int} {l : List (List Int)} (hp : l.Perm [a, b]) (hA : AscC l) (hl : lexC a b < 0) : l = [a, b] := by
  have hlen := hp.length_eq
  match l, hlen with
  | [x, y], _ =>
    have hx : x ∈ [a, b] := hp.mem_iff.1 (by simp)
    have h2 := hA 0 1 (by omega) (by simp)
    have e0 : ix [x, y] 0 = x := ix_zero _ _
    have e1 : ix [x, y] 1 = y := by rw [ix_succ, ix_zero]
    rw [e0, e1] at h2
    simp only [List.mem_cons, List.not_mem_nil, or_false] at hx
    rcases hx with rfl | rfl
    · have := List.perm_singleton.1 (List.Perm.cons_inv hp)
      rw [this]
    · have h3 : [y].Perm [a] := List.Perm.cons_inv (hp.trans (List.Perm.swap _ _ _))
      have := List.perm_singleton.1 h3
      cases this
      exact absurd hl h2
end Go.Tok
namespace Go.Proofs.Ytajmccjnoejmfaa
open Go.RowKit Go.Tok
set_option linter.unusedVariables false
abbrev net14 : NetD := ⟨3, [⟨0, [1, 0, 0], [0, 1, 0]⟩, ⟨0, [0, 1, 0], [0, 0, 1]⟩, ⟨0, [1, 0, 1], [0, 0, 1]⟩]⟩
abbrev net14b : NetD := ⟨3, [⟨0, [1, 0, 0], [0, 1, 0]⟩, ⟨0, [0, 1, 0], [0, 0, 1]⟩]⟩
theorem free14 : freeN net14 = false := by decide +kernel
theorem free14b : freeN net14b = true := by decide +kernel
theorem sortI_two {a b : Int} (h : b < a) : sortI [a, b] = [b, a] := by
  have hp := sortI_perm [a, b]
  have hs := sortI_sorted [a, b]
  have hlen := hp.length_eq
  match hl : sortI [a, b], hlen with
  | [x, y], _ =>
    rw [hl] at hp hs
    have hxy : x ≤ y := by simpa using hs
    have hx : x ∈ [a, b] := hp.mem_iff.1 (by simp)
    simp only [List.mem_cons, List.not_mem_nil, or_false] at hx
    rcases hx with rfl | rfl
    · have := List.perm_singleton.1 (List.Perm.cons_inv hp)
      cases this
      omega
    · have h3 : [y].Perm [a] := List.Perm.cons_inv (hp.trans (List.Perm.swap _ _ _))
      have := List.perm_singleton.1 h3
      cases this
      rfl
theorem sortI_one (a : Int) : sortI [a] = [a] := List.perm_singleton.1 (sortI_perm [a])
theorem clus14 : clusN net14 3 = [[1], [0, 2]] := by
  have e0 : clusN net14 0 = [] := rfl
  have e1 : clusN net14 1 = [[0]] := by
    rw [clus_next, e0]
    have h1 : restTo net14 0 [] ([] : List (List Int)).length = [] := by decide +kernel
    have h2 : mineTo net14 0 [] ([] : List (List Int)).length = [0] := by decide +kernel
    rw [h1, h2, sortI_one]; rfl
  have e2 : clusN net14 2 = [[0], [1]] := by
    rw [clus_next, e1]
    have h1 : restTo net14 1 [[0]] ([[0]] : List (List Int)).length = [[0]] := by decide +kernel
    have h2 : mineTo net14 1 [[0]] ([[0]] : List (List Int)).length = [1] := by decide +kernel
    rw [h1, h2, sortI_one]; rfl
  rw [clus_next, e2]
  have h1 : restTo net14 2 [[0], [1]] ([[0], [1]] : List (List Int)).length = [[1]] := by decide +kernel
  have h2 : mineTo net14 2 [[0], [1]] ([[0], [1]] : List (List Int)).length = [2, 0] := by decide +kernel
  rw [h1, h2, sortI_two (by decide)]; rfl
theorem ans14 {out : List (List Int)} (h : ClusAns net14 out) : out = [[0, 2], [1]] := by
  rcases h with ⟨h, _⟩ | ⟨_, hp, hA⟩
  · exact absurd h (by decide +kernel)
  · have e : net14.trans.length = 3 := rfl
    rw [e, clus14] at hp
    exact asc_perm2 (hp.trans (List.Perm.swap _ _ _)) hA (by decide +kernel)
set_option maxHeartbeats 4000000 in
set_option maxRecDepth 100000 in
theorem alive14_calls (w : World) : Calls Try.prog 26 #[] w fun e w' => e = .returned (.bool true) ∧ Gr w w' := by
  have HF := Lib.hid free14
  have HFb := Lib.hid free14b
  obtain ⟨wS, hwS⟩ : ∃ wS, wS = (((((((w.alloc (.cells #[.int .i64 1, .int .i64 0, .int .i64 0] 3)).alloc (.cells #[.int .i64 0, .int .i64 1, .int .i64 0] 3)).alloc (.cells #[.int .i64 0, .int .i64 1, .int .i64 0] 3)).alloc (.cells #[.int .i64 0, .int .i64 0, .int .i64 1] 3)).alloc (.cells #[.int .i64 1, .int .i64 0, .int .i64 1] 3)).alloc (.cells #[.int .i64 0, .int .i64 0, .int .i64 1] 3)).alloc (.cells #[.int .i64 0, (.slice (some ⟨w.heap.size, 0, none⟩) 3 3), (.slice (some ⟨w.heap.size + 1, 0, none⟩) 3 3), .int .i64 0, (.slice (some ⟨w.heap.size + 1 + 1, 0, none⟩) 3 3), (.slice (some ⟨w.heap.size + 1 + 1 + 1, 0, none⟩) 3 3), .int .i64 0, (.slice (some ⟨w.heap.size + 1 + 1 + 1 + 1, 0, none⟩) 3 3), (.slice (some ⟨w.heap.size + 1 + 1 + 1 + 1 + 1, 0, none⟩) 3 3)] 34)).alloc (.cells #[.int .i64 3, (.slice (some ⟨w.heap.size + 1 + 1 + 1 + 1 + 1 + 1, 0, none⟩) 3 3)] 28) := ⟨_, rfl⟩
  have GS : Gr w wS := by rw [hwS]; exact ((((((((Gr.refl _).alloc _).alloc _).alloc _).alloc _).alloc _).alloc _).alloc _).alloc _
  have hsz : wS.heap.size = w.heap.size + 8 := by rw [hwS]; simp
  have b0 : Blk wS (w.heap.size) 3 #[.int .i64 1, .int .i64 0, .int .i64 0] := by rw [hwS]; exact (Blk.new rfl).gr ((((((((Gr.refl _).alloc _).alloc _).alloc _).alloc _).alloc _).alloc _).alloc _)
  have b1 : Blk wS (w.heap.size + 1) 3 #[.int .i64 0, .int .i64 1, .int .i64 0] := by rw [hwS]; exact (Blk.new (by simp)).gr (((((((Gr.refl _).alloc _).alloc _).alloc _).alloc _).alloc _).alloc _)
  have b2 : Blk wS (w.heap.size + 1 + 1) 3 #[.int .i64 0, .int .i64 1, .int .i64 0] := by rw [hwS]; exact (Blk.new (by simp)).gr ((((((Gr.refl _).alloc _).alloc _).alloc _).alloc _).alloc _)
  have b3 : Blk wS (w.heap.size + 1 + 1 + 1) 3 #[.int .i64 0, .int .i64 0, .int .i64 1] := by rw [hwS]; exact (Blk.new (by simp)).gr (((((Gr.refl _).alloc _).alloc _).alloc _).alloc _)
  have b4 : Blk wS (w.heap.size + 1 + 1 + 1 + 1) 3 #[.int .i64 1, .int .i64 0, .int .i64 1] := by rw [hwS]; exact (Blk.new (by simp)).gr ((((Gr.refl _).alloc _).alloc _).alloc _)
  have b5 : Blk wS (w.heap.size + 1 + 1 + 1 + 1 + 1) 3 #[.int .i64 0, .int .i64 0, .int .i64 1] := by rw [hwS]; exact (Blk.new (by simp)).gr (((Gr.refl _).alloc _).alloc _)
  have bT : Blk wS (w.heap.size + 1 + 1 + 1 + 1 + 1 + 1) 34 #[.int .i64 0, (.slice (some ⟨w.heap.size, 0, none⟩) 3 3), (.slice (some ⟨w.heap.size + 1, 0, none⟩) 3 3), .int .i64 0, (.slice (some ⟨w.heap.size + 1 + 1, 0, none⟩) 3 3), (.slice (some ⟨w.heap.size + 1 + 1 + 1, 0, none⟩) 3 3), .int .i64 0, (.slice (some ⟨w.heap.size + 1 + 1 + 1 + 1, 0, none⟩) 3 3), (.slice (some ⟨w.heap.size + 1 + 1 + 1 + 1 + 1, 0, none⟩) 3 3)] := by rw [hwS]; exact (Blk.new (by simp)).gr ((Gr.refl _).alloc _)
  have bN : Blk wS (w.heap.size + 1 + 1 + 1 + 1 + 1 + 1 + 1) 28 #[.int .i64 3, (.slice (some ⟨w.heap.size + 1 + 1 + 1 + 1 + 1 + 1, 0, none⟩) 3 3)] := by rw [hwS]; exact (Blk.new (by simp))
  have i0 : Ints wS (.slice (some ⟨w.heap.size, 0, none⟩) 3 3) [1, 0, 0] := Ints.blkl b0 rfl rfl (by decide) (by simp)
  have i1 : Ints wS (.slice (some ⟨w.heap.size + 1, 0, none⟩) 3 3) [0, 1, 0] := Ints.blkl b1 rfl rfl (by decide) (by simp)
  have i2 : Ints wS (.slice (some ⟨w.heap.size + 1 + 1, 0, none⟩) 3 3) [0, 1, 0] := Ints.blkl b2 rfl rfl (by decide) (by simp)
  have i3 : Ints wS (.slice (some ⟨w.heap.size + 1 + 1 + 1, 0, none⟩) 3 3) [0, 0, 1] := Ints.blkl b3 rfl rfl (by decide) (by simp)
  have i4 : Ints wS (.slice (some ⟨w.heap.size + 1 + 1 + 1 + 1, 0, none⟩) 3 3) [1, 0, 1] := Ints.blkl b4 rfl rfl (by decide) (by simp)
  have i5 : Ints wS (.slice (some ⟨w.heap.size + 1 + 1 + 1 + 1 + 1, 0, none⟩) 3 3) [0, 0, 1] := Ints.blkl b5 rfl rfl (by decide) (by simp)
  have hT : TransR wS (.slice (some ⟨w.heap.size + 1 + 1 + 1 + 1 + 1 + 1, 0, none⟩) 3 3) net14.trans := TransR.blkl bT rfl (by decide) fun i hi => by
    have hi2 : i = 0 ∨ i = 1 ∨ i = 2 := by simp at hi; omega
    rcases hi2 with rfl | rfl | rfl
    · exact ⟨_, _, rfl, rfl, rfl, by decide, i0, i1⟩
    · exact ⟨_, _, rfl, rfl, rfl, by decide, i2, i3⟩
    · exact ⟨_, _, rfl, rfl, rfl, by decide, i4, i5⟩
  have hTb : TransR wS (.slice (some ⟨w.heap.size + 1 + 1 + 1 + 1 + 1 + 1, 0, none⟩) 2 3) net14b.trans := by
    unfold TransR at hT ⊢
    obtain ⟨a, c, h1, h2, h3, h4⟩ := hT
    cases h1
    refine ⟨_, 3, rfl, by simp, by unfold maxLen; omega, fun i hi => ?_⟩
    have hi2 : i = 0 ∨ i = 1 := by simp at hi; omega
    rcases hi2 with rfl | rfl
    · exact h4 0 (by simp)
    · exact h4 1 (by simp)
  have hN : NetR wS (.agg #[.int .i64 3, .slice (some ⟨w.heap.size + 1 + 1 + 1 + 1 + 1 + 1, 0, none⟩) 3 3]) net14 := NetR.mk_ (N := net14) hT (by decide)
  have hNb : NetR wS (.agg #[.int .i64 3, .slice (some ⟨w.heap.size + 1 + 1 + 1 + 1 + 1 + 1, 0, none⟩) 2 3]) net14b := NetR.mk_ (N := net14b) hTb (by decide)
  have N0 := bN.cell (i := 0) (v := .int .i64 3) rfl
  have N1 := bN.cell (i := 1) (v := .slice (some ⟨w.heap.size + 1 + 1 + 1 + 1 + 1 + 1, 0, none⟩) 3 3) rfl
  clear b0 b1 b2 b3 b4 b5 bT bN i0 i1 i2 i3 i4 i5 hT hTb
  go_enter Try.func26, Try.ntmps26
  go_wp2_with fail
  rw [← hwS]
  clear hwS hsz
  refine (Free_calls _ net14 _ hN).mono ?_
  rw [HF.out]; rintro _ w1 ⟨rfl, g1⟩
  have P1 := cell_gr N1 g1
  go_wp2_with fail
  refine (Free_calls _ net14b _ (hNb.gr g1)).mono ?_
  rw [HFb.out]; rintro _ w2 ⟨rfl, g2⟩
  have G2 := g1.trans g2
  have Q0 := cell_gr N0 G2
  have Q1 := cell_gr N1 G2
  clear P1
  go_wp2_with fail
  refine (Clusters_calls _ net14 _ (hN.gr G2)).mono ?_
  rintro _ w3 ⟨v3, out, rfl, hans, hrd, g3⟩
  obtain rfl := ans14 hans
  clear Q0 Q1 hans
  obtain ⟨ra, rc, rfl, -, -⟩ := hrd.len
  have G3 := G2.trans g3
  obtain ⟨wT, hwT⟩ : ∃ wT, wT = ((w3.alloc (.cells #[.int .i64 0, .int .i64 2] 3)).alloc (.cells #[.int .i64 1] 3)).alloc (.cells #[(.slice (some ⟨w3.heap.size, 0, none⟩) 2 2), (.slice (some ⟨w3.heap.size + 1, 0, none⟩) 1 1)] 32) := ⟨_, rfl⟩
  have GT : Gr w3 wT := by rw [hwT]; exact (((Gr.refl _).alloc _).alloc _).alloc _
  have hsz2 : wT.heap.size = w3.heap.size + 3 := by rw [hwT]; simp
  have c0 : Blk wT (w3.heap.size) 3 #[.int .i64 0, .int .i64 2] := by rw [hwT]; exact (Blk.new rfl).gr (((Gr.refl _).alloc _).alloc _)
  have c1 : Blk wT (w3.heap.size + 1) 3 #[.int .i64 1] := by rw [hwT]; exact (Blk.new (by simp)).gr ((Gr.refl _).alloc _)
  have cT : Blk wT (w3.heap.size + 1 + 1) 32 #[(.slice (some ⟨w3.heap.size, 0, none⟩) 2 2), (.slice (some ⟨w3.heap.size + 1, 0, none⟩) 1 1)] := by rw [hwT]; exact (Blk.new (by simp))
  have j0 : Ints wT (.slice (some ⟨w3.heap.size, 0, none⟩) 2 2) [0, 2] := Ints.blkl c0 rfl rfl (by decide) (by simp)
  have j1 : Ints wT (.slice (some ⟨w3.heap.size + 1, 0, none⟩) 1 1) [1] := Ints.blkl c1 rfl rfl (by decide) (by simp)
  have jR : Rd rowK wT (.slice (some ⟨w3.heap.size + 1 + 1, 0, none⟩) 2 2) [[0, 2], [1]] := Rd.blkRows cT rfl (by simp) fun i hi => by
    have hi2 : i = 0 ∨ i = 1 := by simp at hi; omega
    rcases hi2 with rfl | rfl
    · exact ⟨_, rfl, by rw [ix_zero]; exact j0⟩
    · exact ⟨_, rfl, by rw [ix_succ, ix_zero]; exact j1⟩
  clear c0 c1 cT j0 j1
  go_wp2_with fail
  rw [← hwT]
  refine (SameLists_self _ _ _ _ (hrd.gr GT) jR).mono ?_
  rintro _ w4 ⟨rfl, g4⟩
  clear hwT hsz2
  go_wp2_with fail
  go_ret
  exact ⟨rfl, (GS.trans G3).trans (GT.trans g4)⟩
end Go.Proofs.Ytajmccjnoejmfaa
