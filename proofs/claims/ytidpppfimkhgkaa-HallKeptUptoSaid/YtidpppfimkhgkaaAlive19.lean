/- The call alive19 answers true, in whatever world; nothing that lay there turns. -/
import Derived.Test.YtidpppfimkhgkaaHall6
import Derived.Test.YtidpppfimkhgkaaDesk7
import Derived.Test.YtidpppfimkhgkaaBlkR
namespace Go.Proofs.Ytidpppfimkhgkaa
open Go.RowKit Go.Tok
set_option linter.unusedVariables false
abbrev net19 : NetD := ⟨2, [⟨3, [1, 0], [0, 1]⟩]⟩
def ops19 : List HopD := [⟨1, 0, ⟨1, 0, 0, 0, 0⟩⟩, ⟨2, 0, ⟨0, 0, 0, 0, 0⟩⟩, ⟨1, 0, ⟨2, 0, 0, 0, 0⟩⟩, ⟨3, 6, ⟨0, 0, 0, 0, 0⟩⟩]
def roles19 : List (List Int) := [[3]]
theorem ops19_I : ∀ x ∈ ops19, hopI x := by
  intro x hx
  simp only [ops19, List.mem_cons, List.not_mem_nil, or_false] at hx
  rcases hx with rfl | rfl | rfl | rfl <;> (unfold hopI opI; decide)
theorem hall19 : hallPlay net19 0 roles19 ops19 = ((⟨⟨[0, 0], [1]⟩, [⟨0, 0, true⟩]⟩, [⟨0, 0⟩, ⟨0, 0⟩, ⟨0, 0⟩, ⟨0, 0⟩]), 0) := by decide +kernel
set_option maxHeartbeats 1000000 in
set_option maxRecDepth 100000 in
theorem alive19_calls (w : World) : Calls Try.prog 29 #[] w fun e w' => e = .returned (.bool true) ∧ Gr w w' := by
  have HE := Lib.hid hall19
  have e1 : eqB [1] [1] = true := by decide +kernel
  obtain ⟨wS, hwS⟩ : ∃ wS, wS = (((((((w.alloc (.cells #[.int .i64 1, .int .i64 0] 3)).alloc (.cells #[.int .i64 0, .int .i64 1] 3)).alloc (.cells #[.int .i64 3, (.slice (some ⟨w.heap.size, 0, none⟩) 2 2), (.slice (some ⟨w.heap.size + 1, 0, none⟩) 2 2)] 34)).alloc (.cells #[.int .i64 2, (.slice (some ⟨w.heap.size + 1 + 1, 0, none⟩) 1 1)] 28)).alloc (.cells #[.int .i64 1, .int .i64 0, .int .i64 1, .int .i64 0, .int .i64 0, .int .i64 0, .int .i64 0] 61)).alloc (.cells #[.int .i64 3] 3)).alloc (.cells #[(.slice (some ⟨w.heap.size + 1 + 1 + 1 + 1 + 1, 0, none⟩) 1 1)] 32)).alloc (.cells #[.int .i64 1, .int .i64 0, .int .i64 1, .int .i64 0, .int .i64 0, .int .i64 0, .int .i64 0, .int .i64 2, .int .i64 0, .int .i64 0, .int .i64 0, .int .i64 0, .int .i64 0, .int .i64 0, .int .i64 1, .int .i64 0, .int .i64 2, .int .i64 0, .int .i64 0, .int .i64 0, .int .i64 0, .int .i64 3, .int .i64 6, .int .i64 0, .int .i64 0, .int .i64 0, .int .i64 0, .int .i64 0] 61) := ⟨_, rfl⟩
  have GS : Gr w wS := by rw [hwS]; exact ((((((((Gr.refl _).alloc _).alloc _).alloc _).alloc _).alloc _).alloc _).alloc _).alloc _
  have hsz : wS.heap.size = w.heap.size + 8 := by rw [hwS]; simp
  have b0 : Blk wS (w.heap.size) 3 #[.int .i64 1, .int .i64 0] := by rw [hwS]; exact (Blk.new rfl).gr ((((((((Gr.refl _).alloc _).alloc _).alloc _).alloc _).alloc _).alloc _).alloc _)
  have b1 : Blk wS (w.heap.size + 1) 3 #[.int .i64 0, .int .i64 1] := by rw [hwS]; exact (Blk.new (by simp)).gr (((((((Gr.refl _).alloc _).alloc _).alloc _).alloc _).alloc _).alloc _)
  have bT : Blk wS (w.heap.size + 1 + 1) 34 #[.int .i64 3, (.slice (some ⟨w.heap.size, 0, none⟩) 2 2), (.slice (some ⟨w.heap.size + 1, 0, none⟩) 2 2)] := by rw [hwS]; exact (Blk.new (by simp)).gr ((((((Gr.refl _).alloc _).alloc _).alloc _).alloc _).alloc _)
  have bN : Blk wS (w.heap.size + 1 + 1 + 1) 28 #[.int .i64 2, (.slice (some ⟨w.heap.size + 1 + 1, 0, none⟩) 1 1)] := by rw [hwS]; exact (Blk.new (by simp)).gr (((((Gr.refl _).alloc _).alloc _).alloc _).alloc _)
  have bH : Blk wS (w.heap.size + 1 + 1 + 1 + 1) 61 #[.int .i64 1, .int .i64 0, .int .i64 1, .int .i64 0, .int .i64 0, .int .i64 0, .int .i64 0] := by rw [hwS]; exact (Blk.new (by simp)).gr ((((Gr.refl _).alloc _).alloc _).alloc _)
  have b4 : Blk wS (w.heap.size + 1 + 1 + 1 + 1 + 1) 3 #[.int .i64 3] := by rw [hwS]; exact (Blk.new (by simp)).gr (((Gr.refl _).alloc _).alloc _)
  have bR : Blk wS (w.heap.size + 1 + 1 + 1 + 1 + 1 + 1) 32 #[(.slice (some ⟨w.heap.size + 1 + 1 + 1 + 1 + 1, 0, none⟩) 1 1)] := by rw [hwS]; exact (Blk.new (by simp)).gr ((Gr.refl _).alloc _)
  have bO : Blk wS (w.heap.size + 1 + 1 + 1 + 1 + 1 + 1 + 1) 61 #[.int .i64 1, .int .i64 0, .int .i64 1, .int .i64 0, .int .i64 0, .int .i64 0, .int .i64 0, .int .i64 2, .int .i64 0, .int .i64 0, .int .i64 0, .int .i64 0, .int .i64 0, .int .i64 0, .int .i64 1, .int .i64 0, .int .i64 2, .int .i64 0, .int .i64 0, .int .i64 0, .int .i64 0, .int .i64 3, .int .i64 6, .int .i64 0, .int .i64 0, .int .i64 0, .int .i64 0, .int .i64 0] := by rw [hwS]; exact (Blk.new (by simp))
  have hN : NetR wS (.agg #[.int .i64 2, (.slice (some ⟨w.heap.size + 1 + 1, 0, none⟩) 1 1)]) net19 := NetR.mk_ (N := net19) (TransR.bl1 (t1 := ⟨3, [1, 0], [0, 1]⟩) bT (Ints.blkl b0 rfl rfl (by decide) (by simp)) (Ints.blkl b1 rfl rfl (by decide) (by simp)) (by decide)) (by decide)
  have hR : Rd rowK wS (.slice (some ⟨w.heap.size + 1 + 1 + 1 + 1 + 1 + 1, 0, none⟩) 1 1) roles19 := Rd.blkRows bR rfl (by decide) fun i hi => by
    obtain rfl : i = 0 := by simp [roles19] at hi; omega
    exact ⟨.slice (some ⟨w.heap.size + 1 + 1 + 1 + 1 + 1, 0, none⟩) 1 1, rfl, by rw [ix_def]; exact Ints.blkl (xs := [3]) b4 rfl rfl (by decide) (by simp)⟩
  have hO : Rd hopK wS (.slice (some ⟨w.heap.size + 1 + 1 + 1 + 1 + 1 + 1 + 1, 0, none⟩) 4 4) ops19 := Rd.blkFlat bO rfl (by decide) rfl ops19_I
  clear b0 b1 bT bN bH b4 bR bO
  go_enter Try.func29, Try.ntmps29
  go_wp2_with fail
  rw [← hwS]
  clear hwS hsz
  refine (HallPlay_calls _ _ _ net19 0 roles19 ops19 _ hN (by decide) hR hO (by decide)).mono ?_
  rw [HE.out]; rintro _ w1 ⟨v1, u1, rfl, i1, j1, g1⟩
  obtain ⟨ma, mn, ba, bn, ia, jn, rfl, -, -, -, -, -, -, iM, iB, iI⟩ := i1.open_
  simp only [] at j1
  obtain ⟨la, lc, rfl, -, -⟩ := j1.len
  have GE : Gr w1 (w1.alloc (.cells #[.slice ma 2 mn, .slice ba 1 bn, .slice ia 1 jn] 66)) := (Gr.refl _).alloc _
  have K1 : (w1.alloc (.cells #[.slice ma 2 mn, .slice ba 1 bn, .slice ia 1 jn] 66)).cell? ⟨w1.heap.size, 1, none⟩ = some (.slice ba 1 bn) := box_cell (Gr.refl _) (i := 1) rfl
  have K2 : (w1.alloc (.cells #[.slice ma 2 mn, .slice ba 1 bn, .slice ia 1 jn] 66)).cell? ⟨w1.heap.size, 2, none⟩ = some (.slice ia 1 jn) := box_cell (Gr.refl _) (i := 2) rfl
  have GW : Gr w (w1.alloc (.cells #[.slice ma 2 mn, .slice ba 1 bn, .slice ia 1 jn] 66)) := (GS.trans g1).trans GE
  replace iB := iB.gr GE
  replace iI := iI.gr GE
  clear j1 g1 GE hN hR hO i1 iM GS
  go_wp2_with fail
  have bI : Blk ((w1.alloc (.cells #[.slice ma 2 mn, .slice ba 1 bn, .slice ia 1 jn] 66)).alloc (.cells #[.int .i64 0, .int .i64 0, .bool true] 156)) (w1.heap.size + 1) 156 #[.int .i64 0, .int .i64 0, .bool true] := Blk.new (by simp)
  have hI2 : Rd itemK ((w1.alloc (.cells #[.slice ma 2 mn, .slice ba 1 bn, .slice ia 1 jn] 66)).alloc (.cells #[.int .i64 0, .int .i64 0, .bool true] 156)) (.slice (some ⟨w1.heap.size + 1, 0, none⟩) 1 1) [⟨0, 0, true⟩] := Rd.blkFlat (α := ItemD) (size := 3) (cells := itemCells) (ok := itemI) (xs := [⟨0, 0, true⟩]) bI rfl (by simp) (by simp [cellsOf, itemCells]) (by simp [itemI, I64])
  have hI1 := iI.gr ((Gr.refl (w1.alloc (.cells #[.slice ma 2 mn, .slice ba 1 bn, .slice ia 1 jn] 66))).alloc (.cells #[.int .i64 0, .int .i64 0, .bool true] 156))
  clear bI iI
  refine (EqualItem_self _ _ [⟨0, 0, true⟩] _ hI1 hI2).mono ?_
  rintro _ w3 ⟨rfl, g3⟩
  have G3 : Gr (w1.alloc (.cells #[.slice ma 2 mn, .slice ba 1 bn, .slice ia 1 jn] 66)) w3 := ((Gr.refl _).alloc _).trans g3
  replace K1 := cell_gr K1 G3
  replace iB := iB.gr G3
  replace GW := GW.trans G3
  clear K2 g3 G3 hI1 hI2
  go_wp2_with fail
  refine (Equal_calls _ _ [1] [1] _ (iB.gr (by (repeat (first | exact Gr.refl _ | assumption | apply Gr.alloc | apply Gr.drew | apply Gr.drewN | refine Gr.trans ?_ (by assumption))))) (by (repeat (first | assumption | exact Ints.nil _ | (refine Ints.lit ?_ rfl rfl rfl ?_ ?_; ((focus (simp; done))); all_goals decide) | apply Ints.alloc | apply Ints.drew | refine Ints.gr ?_ (show Gr _ _ from by assumption))))).mono ?_
  rw [e1]; rintro _ w5 ⟨rfl, g5⟩
  go_wp2_with fail
  go_ret
  exact ⟨rfl, GW.trans (by (repeat (first | exact Gr.refl _ | assumption | apply Gr.alloc | apply Gr.drew | apply Gr.drewN | refine Gr.trans ?_ (by assumption))))⟩
end Go.Proofs.Ytidpppfimkhgkaa
