/- The call CoverAll answers true at any net, mark, limit and sequence that read as data; nothing that lay there turns. -/
import Derived.Test.YtkekamffmmokmaaAlive5
import Derived.Test.YtkekamffmmokmaaKnotFn
namespace Go.Tok
theorem all_law {N : NetD} {m q x : List Int} {most : Int} {ks : List KnotD} (h : treeF N m most = (ks, 0)) (hr : runF N m q = (x, 0)) : (ks.any fun k => covKB k.mark x) = true := by
  obtain ⟨_, _, _, hT⟩ := tree_ok h
  obtain ⟨j, hj, hc⟩ := cover_all hT hr
  exact List.any_eq_true.2 ⟨ix ks j, ix_mem hj, covers_iff.2 hc⟩
end Go.Tok
namespace Go.Proofs.Ytkekamffmmokmaa
open Go.RowKit Go.Tok
set_option linter.unusedVariables false
set_option linter.unusedSimpArgs false
theorem CoverAll1_answers (w0 : World) (gb : Nat) (gv : Value) (x : List Int) (ks : List KnotD) (hc : w0.cell? ⟨gb, 0, none⟩ = some gv) (hg : Ints w0 gv x) :
    AnswersKn Try.prog 20 #[.pointer (some ⟨gb, 0, none⟩)] ks (fun k => covKB k.mark x) w0 := by
  intro W u k hk g hI
  obtain ⟨ga, gc, rfl, _, _⟩ := hg.len
  obtain ⟨ua, uc, rfl, _, _⟩ := hI.len
  have GA : Gr W (W.alloc (.cells #[.int .i64 k.up, .int .i64 k.tran, .slice ua k.mark.length uc] 35)) := (Gr.refl _).alloc _
  have c := cell_gr (cell_gr hc g) GA
  have K2 : (W.alloc (.cells #[.int .i64 k.up, .int .i64 k.tran, .slice ua k.mark.length uc] 35)).cell? ⟨W.heap.size, 2, none⟩ = some (.slice ua k.mark.length uc) := box_cell (Gr.refl _) (i := 2) rfl
  go_enter Try.func20, Try.ntmps20
  go_wp2_with fail
  refine (covers_calls _ _ k.mark x _ (hI.gr GA) (hg.gr (g.trans GA))).mono ?_
  rintro _ w1 ⟨rfl, g1⟩
  go_wp2_with fail
  go_ret
  exact ⟨rfl, GA.trans g1⟩
set_option maxHeartbeats 4000000 in
set_option maxRecDepth 100000 in
theorem CoverAll_walk {v u z : Value} {N : NetD} {m seq : List Int} {most : Int} (w : World) (hN : NetR w v N) (hm0 : Ints w u m ∧ m.length ≤ 17592186043904) (hmo : I64 most) (hz0 : Ints w z seq ∧ seq.length ≤ 17592186043904) :
    Calls Try.prog 3 #[v, u, .int .i64 most, z] w fun e w' => e = .returned (.bool true) ∧ Gr w w' := by
  obtain ⟨hm, _⟩ := hm0
  obtain ⟨hz, _⟩ := hz0
  have hN' := hN
  obtain ⟨a, cap, rfl, hnl, hncap, hpl, hT⟩ := hN.open_
  have hpl1 := hpl.1
  have hpl2 := hpl.2
  obtain ⟨ua, uc, rfl, _, _⟩ := hm.len
  obtain ⟨za, zc, rfl, _, _⟩ := hz.len
  rcases hL : treeF N m most with ⟨ks, e⟩
  rcases hR : runF N m seq with ⟨x, f⟩
  have HL := Lib.hid hL
  have HR := Lib.hid hR
  clear hL hR
  have eg : ∀ args w, (callFunc 20 args).run Try.prog w = .ok (.enter 20 args) w := (Go.Proofs.enters_of Try.func20 (by kernel_rfl) rfl)
  go_enter Try.func3, Try.ntmps3
  go_wp2_with fail
  refine (alive5_calls _).mono ?_
  rintro _ w1 ⟨rfl, g1⟩
  have B0 := box_cell g1 (i := 0) (v := .int .i64 N.places) rfl
  have B1 := box_cell g1 (i := 1) (v := .slice a N.trans.length cap) rfl
  have GW : Gr w w1 := ((Gr.refl w).alloc _).trans g1
  clear g1
  go_wp2_with fail
  refine (Tree_calls _ _ N m most _ (hN'.gr GW) (hm.gr GW) hmo).mono ?_
  rw [HL.out]; rintro _ w2 ⟨v2, rfl, i2, g2⟩
  obtain ⟨la, lc, rfl, _, _⟩ := i2.len
  simp only [] at i2
  have C0 := cell_gr B0 g2
  have C1 := cell_gr B1 g2
  have GW2 := GW.trans g2
  clear B0 B1 g2 GW
  go_wp2_with fail
  refine (Run_calls _ _ _ N m seq _ (hN'.gr GW2) (hm.gr GW2) (hz.gr GW2)).mono ?_
  rw [HR.out]; rintro _ w3 ⟨v3, rfl, i3, g3⟩
  obtain ⟨xa, xc, rfl, _, _⟩ := i3.len
  simp only [] at i3
  have gX : Gr w3 (w3.alloc (.cells #[.slice xa x.length xc] 25)) := (Gr.refl _).alloc _
  have hX : (w3.alloc (.cells #[.slice xa x.length xc] 25)).cell? ⟨w3.heap.size, 0, none⟩ = some (.slice xa x.length xc) := box_cell (Gr.refl _) (i := 0) rfl
  have GF := Lib.hid ((GW2.trans g3).trans gX)
  have HI2 := Lib.hid (i2.gr (g3.trans gX))
  have HI3 := Lib.hid (i3.gr gX)
  have HX := Lib.hid hX
  clear GW2 g3 gX i2 i3 hX
  by_cases he : e = 0
  · subst he
    by_cases hf : f = 0
    · subst hf
      have HA := Lib.hid (all_law HL.out HR.out)
      go_wp2_with fail
      refine (ContainsFuncKn_calls _ ks 20 #[.pointer (some ⟨w3.heap.size, 0, none⟩)] (fun k => covKB k.mark x) _ eg HI2.out (CoverAll1_answers _ _ _ x ks HX.out HI3.out)).mono ?_
      rw [HA.out]; rintro _ w4 ⟨rfl, g4⟩
      go_wp2_with fail
      go_ret
      exact ⟨rfl, GF.out.trans g4⟩
    · have hfB : (f != 0) = true := by simpa using hf
      have hfB2 : (f == 0) = false := by simpa using hf
      clear hf
      go_wp2_with fail
      go_ret
      exact ⟨rfl, GF.out⟩
  · have heB : (e != 0) = true := by simpa using he
    have heB2 : (e == 0) = false := by simpa using he
    obtain rfl := tree_bad HL.out he
    clear he
    go_wp2_with fail
    go_ret
    exact ⟨rfl, GF.out⟩
end Go.Proofs.Ytkekamffmmokmaa
