/- The call ChoiceSame answers true at any net and mark that read as data; nothing that lay there turns. -/
import Derived.Test.YtkekamffmmokmaaChoiceL2
import Derived.Test.YtkekamffmmokmaaGN
import Derived.Test.YtkekamffmmokmaaPA
import Derived.BigQuiet
import Derived.Deep.QuietTactic
namespace Go.Proofs.Ytkekamffmmokmaa
open Go.RowKit Go.Tok
set_option linter.unusedVariables false
set_option linter.unusedSimpArgs false
set_option maxHeartbeats 8000000 in
set_option maxRecDepth 100000 in
theorem ChoiceSame_walk {v u : Value} {N : NetD} {m : List Int} (w : World) (hN : NetR w v N) (hm0 : Ints w u m ∧ m.length ≤ 17592186043904) :
    Calls Try.prog 13 #[v, u] w fun e w' => e = .returned (.bool true) ∧ Gr w w' := by
  obtain ⟨hm, _⟩ := hm0
  have hN' := hN
  obtain ⟨a, cap, rfl, hnl, hncap, hpl, hT⟩ := hN.open_
  have hpl1 := hpl.1
  have hpl2 := hpl.2
  obtain ⟨ua, uc, rfl, -, -⟩ := hm.len
  go_enter Try.func13, Try.ntmps13
  go_wp2_with fail
  refine (alive14_calls _).mono ?_
  rintro _ w1 ⟨rfl, g1⟩
  have B0 := box_cell g1 (i := 0) (v := .int .i64 N.places) rfl
  have B1 := box_cell g1 (i := 1) (v := .slice a N.trans.length cap) rfl
  have G1 : Gr w w1 := ((Gr.refl w).alloc _).trans g1
  clear g1
  rcases hL : enabledF N m with ⟨l, e⟩
  have HL := Lib.hid hL
  clear hL
  go_wp2_with fail
  refine (Enabled_calls _ _ N m _ (hN'.gr G1) (hm.gr G1)).mono ?_
  rw [HL.out]; rintro _ w2 ⟨v2, rfl, i2, g2⟩
  simp only [] at i2
  obtain ⟨la, lc, rfl, -, -⟩ := i2.len
  have C0 := cell_gr B0 g2
  have C1 := cell_gr B1 g2
  have G2 := G1.trans g2
  clear B0 B1 g2 G1
  by_cases he : e = 0
  · subst he
    cases hf : freeN N
    · have HF := Lib.hid hf
      clear hf
      go_wp2_with fail
      refine (Free_calls _ N _ (hN'.gr G2)).mono ?_
      rw [HF.out]; rintro _ w3 ⟨rfl, g3⟩
      go_wp2_with fail
      go_ret
      exact ⟨rfl, G2.trans g3⟩
    · have HF := Lib.hid hf
      have HLL := Lib.hid (show l = enabledL N m from by
        cases hft : fitsB N m
        · have h := HL.out; rw [enabledF_unfit hft] at h; cases h
        · have h := HL.out; rw [enabledF_fit hft] at h; cases h; rfl)
      clear hf
      go_wp2_with fail
      refine (Free_calls _ N _ (hN'.gr G2)).mono ?_
      rw [HF.out]; rintro _ w3 ⟨rfl, g3⟩
      have G3 := G2.trans g3
      have I3 := i2.gr g3
      have D0 := cell_gr C0 g3
      have D1 := cell_gr C1 g3
      clear C0 C1 g3 i2
      go_wp2_with fail
      refine (Clusters_calls _ N _ (hN'.gr G3)).mono ?_
      rintro _ w4 ⟨v4, out, rfl, hans, hrd, g4⟩
      obtain ⟨ra, rc, rfl, hol, hol2⟩ := hrd.len
      have HANS := Lib.hid hans
      have G4 := G3.trans g4
      have I4 := I3.gr g4
      clear D0 D1 g4 I3 hans
      go_wp2_with fail
      go_loopw [29] (fun q wr => ∃ k : Nat, q = .int .i64 k ∧ k ≤ out.length ∧ Gr w4 wr) (fun q _ => out.length - (intOf q).toNat)
      case atStart => exact ⟨0, rfl, Nat.zero_le _, Gr.refl _⟩
      case round =>
        rename World => wr
        obtain ⟨k, rfl, hk, hgr⟩ := hrel
        by_cases hlt : k < out.length
        · obtain ⟨rb, ro, x, rfl, c0, hI⟩ := (hrd.gr hgr).row hlt
          obtain ⟨xa, xc, rfl, hcl, hcl2⟩ := hI.len
          have hkI : (k : Int) < (out.length : Int) := by omega
          obtain ⟨c, hc⟩ : ∃ c, c = ix out k := ⟨_, rfl⟩
          rw [← hc] at hI c0 hcl
          have HC := Lib.hid (show c ∈ out by rw [hc]; exact ix_mem hlt)
          have I5 := I4.gr hgr
          clear hc
          go_wp2_with fail
          go_loopw [35] (fun q wi => ∃ j : Nat, q = .int .i64 j ∧ j ≤ c.length ∧ Gr wr wi) (fun q _ => c.length - (intOf q).toNat)
          case atStart => exact ⟨0, rfl, Nat.zero_le _, Gr.refl _⟩
          case round =>
            rename World => wi
            obtain ⟨j, rfl, hj, hgi⟩ := hrel
            by_cases hjlt : j < c.length
            · have hI6 := hI.gr hgi
              have I6 := I5.gr hgi
              obtain ⟨cb, co, hca, e1⟩ := hI6.cell hjlt
              subst hca
              obtain ⟨cb', co', hca, e0⟩ := hI6.cell (i := 0) (by omega)
              cases hca
              have hjI : (j : Int) < (c.length : Int) := by omega
              have h0I : 0 < c.length := by omega
              have h0J : (0 : Int) < (c.length : Int) := by omega
              have h0K : c ≠ [] := fun e => by rw [e] at h0I; simp at h0I
              simp only [Nat.add_zero] at e0
              have hsame : hasB l (nth c j) = hasB l (nth c 0) := by
                rw [HLL.out]
                exact ans_same HANS.out HF.out HC.out (by rw [nth_lt hjlt]; exact List.getElem_mem hjlt) (by rw [nth_lt (by omega : 0 < c.length)]; exact List.getElem_mem _)
              obtain ⟨xj, hxj⟩ : ∃ x, x = nth c j := ⟨_, rfl⟩
              obtain ⟨x0, hx0⟩ : ∃ x, x = nth c 0 := ⟨_, rfl⟩
              rw [← hxj] at hsame e1
              rw [← hx0] at hsame e0
              have hne : (!(hasB l xj == hasB l x0)) = false := by rw [hsame]; simp
              clear hsame hxj hx0
              go_wp2_with fail
              go_quiet ((go_at_call 24; exact Calls.quiet_of_same (same_quiet (Contains_calls _ l _ _ (I6.gr (by (repeat (first | exact Gr.refl _ | assumption | apply Gr.alloc | apply Gr.drew | apply Gr.drewN | refine Gr.trans ?_ (by assumption)))))))))
              go_wp2_with fail
              go_roundw
              case rel => exact ⟨j + 1, by go_num, hjlt, hgi.drewN _⟩
              case measure => simp [intOf]; omega
            · obtain rfl : j = c.length := by omega
              go_wp2_with fail
              go_roundw
              case rel => exact ⟨k + 1, by go_num, hlt, hgr.trans hgi⟩
              case measure => simp [intOf]; omega
        · obtain rfl : k = out.length := by omega
          go_wp2_with fail
          go_ret
          exact ⟨rfl, G4.trans hgr⟩
  · have heB : (e == 0) = false := by simpa using he
    have heN : (e != 0) = true := by simpa using he
    go_wp2_with fail
    go_ret
    exact ⟨rfl, G2⟩
end Go.Proofs.Ytkekamffmmokmaa
