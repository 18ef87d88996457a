/- The call CoverMany answers true at any net, mark and limit that read as data; nothing that lay there turns. -/
import Derived.Test.YtkekamffmmokmaaAlive5
import Derived.Test.YtkekamffmmokmaaKnotFn
import Derived.Test.YtkekamffmmokmaaGR
namespace Go.Tok
theorem many_law {N : NetD} {m : List Int} {most : Int} {ks : List KnotD} (h : treeF N m most = (ks, 0)) (ha : (ks.any fun k => hasB k.mark (-1)) = true) : (graphF N m 300).2 = 4 := by
  obtain ⟨_, _, _, hT⟩ := tree_ok h
  obtain ⟨k, hk, hh⟩ := List.any_eq_true.1 ha
  obtain ⟨j, hj, rfl⟩ := List.getElem_of_mem hk
  rw [← ix_lt hj] at hh
  have hm := (hasB_iff _ _).1 hh
  obtain ⟨p, hp, he⟩ := List.getElem_of_mem hm
  exact cover_many hT hj hp (by rw [nth_lt hp]; exact he)
end Go.Tok
namespace Go.Proofs.Ytkekamffmmokmaa
open Go.RowKit Go.Tok
set_option linter.unusedVariables false
set_option linter.unusedSimpArgs false
theorem CoverMany1_answers (w0 : World) (ks : List KnotD) : AnswersKn Try.prog 23 #[] ks (fun k => hasB k.mark (-1)) w0 := by
  intro W u k hk g hI
  obtain ⟨ua, uc, rfl, _, _⟩ := hI.len
  have GA : Gr W (W.alloc (.cells #[.int .i64 k.up, .int .i64 k.tran, .slice ua k.mark.length uc] 35)) := (Gr.refl _).alloc _
  have K2 : (W.alloc (.cells #[.int .i64 k.up, .int .i64 k.tran, .slice ua k.mark.length uc] 35)).cell? ⟨W.heap.size, 2, none⟩ = some (.slice ua k.mark.length uc) := box_cell (Gr.refl _) (i := 2) rfl
  go_enter Try.func23, Try.ntmps23
  go_wp2_with fail
  refine (Contains_calls _ k.mark (-1) _ (hI.gr GA)).mono ?_
  rintro _ w1 ⟨rfl, rfl⟩
  go_wp2_with fail
  go_ret
  exact ⟨rfl, GA⟩
set_option maxHeartbeats 4000000 in
set_option maxRecDepth 100000 in
theorem CoverMany_walk {v u : Value} {N : NetD} {m : List Int} {most : Int} (w : World) (hN : NetR w v N) (hm0 : Ints w u m ∧ m.length ≤ 17592186043904) (hmo : I64 most) :
    Calls Try.prog 5 #[v, u, .int .i64 most] w fun e w' => e = .returned (.bool true) ∧ Gr w w' := by
  obtain ⟨hm, _⟩ := hm0
  have hN' := hN
  obtain ⟨a, cap, rfl, hnl, hncap, hpl, hT⟩ := hN.open_
  have hpl1 := hpl.1
  have hpl2 := hpl.2
  obtain ⟨ua, uc, rfl, _, _⟩ := hm.len
  rcases hL : treeF N m most with ⟨ks, e⟩
  have HL := Lib.hid hL
  clear hL
  have eg : ∀ args w, (callFunc 23 args).run Try.prog w = .ok (.enter 23 args) w := (Go.Proofs.enters_of Try.func23 (by kernel_rfl) rfl)
  go_enter Try.func5, Try.ntmps5
  go_wp2_with fail
  refine (alive5_calls _).mono ?_
  rintro _ w1 ⟨rfl, g1⟩
  have B0 := box_cell g1 (i := 0) (v := .int .i64 N.places) rfl
  have B1 := box_cell g1 (i := 1) (v := .slice a N.trans.length cap) rfl
  have GW : Gr w w1 := ((Gr.refl w).alloc _).trans g1
  clear g1
  go_wp2_with fail
  refine (Tree_calls _ _ N m most _ (hN'.gr GW) (hm.gr GW) hmo).mono ?_
  rw [HL.out]; rintro _ w2 ⟨v2, rfl, i2, g2⟩
  obtain ⟨la, lc, rfl, _, _⟩ := i2.len
  simp only [] at i2
  have GW2 := GW.trans g2
  have HG2 := Lib.hid GW2
  by_cases he : e = 0
  · subst he
    have HI2 := Lib.hid i2
    have D0 := cell_gr B0 g2
    have D1 := cell_gr B1 g2
    clear B0 B1 i2
    rcases hany : (ks.any fun k => hasB k.mark (-1)) with _ | _
    · have HA := Lib.hid hany
      clear hany
      go_wp2_with fail
      refine (ContainsFuncKn_calls _ ks 23 #[] (fun k => hasB k.mark (-1)) _ eg HI2.out (CoverMany1_answers _ ks)).mono ?_
      rw [HA.out]; rintro _ w3 ⟨rfl, g3⟩
      go_wp2_with fail
      go_ret
      exact ⟨rfl, HG2.out.trans g3⟩
    · have hg4 := many_law HL.out hany
      have HA := Lib.hid hany
      clear hany
      rcases hgr : graphF N m 300 with ⟨A, f⟩
      rw [hgr] at hg4
      simp only [] at hg4
      subst hg4
      have HGR := Lib.hid hgr
      clear hgr
      go_wp2_with fail
      refine (ContainsFuncKn_calls _ ks 23 #[] (fun k => hasB k.mark (-1)) _ eg HI2.out (CoverMany1_answers _ ks)).mono ?_
      rw [HA.out]; rintro _ w3 ⟨rfl, g3⟩
      have E0 := cell_gr D0 g3
      have E1 := cell_gr D1 g3
      have GW3 := GW2.trans g3
      clear D0 D1
      go_wp2_with fail
      refine (Graph_calls _ _ N m 300 _ (hN'.gr GW3) (hm.gr GW3) (by decide)).mono ?_
      rw [HGR.out]; rintro _ w4 ⟨v4, rfl, i4, g4⟩
      obtain ⟨ma2, mc2, aa2, ac2, rfl, -, -, -, -, -, -⟩ := i4.open_
      simp only []
      go_wp2_with fail
      go_ret
      exact ⟨rfl, by first | exact GW3.trans g4 | exact (GW3.trans g4).alloc _⟩
  · have heB : (e != 0) = true := by simpa using he
    clear he
    go_wp2_with fail
    go_ret
    exact ⟨rfl, HG2.out⟩
end Go.Proofs.Ytkekamffmmokmaa
