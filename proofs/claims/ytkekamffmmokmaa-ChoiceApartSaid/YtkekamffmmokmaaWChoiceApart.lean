/- The call ChoiceApart answers true at any net, mark and transition that read as data; nothing that lay there turns. -/
import Derived.Test.YtkekamffmmokmaaChoiceL2
import Derived.Test.YtkekamffmmokmaaGN
namespace Go.Tok
theorem enabF_fit {N : NetD} {m l : List Int} (h : enabledF N m = (l, 0)) : fitsB N m = true ∧ l = enabledL N m := by
  cases hft : fitsB N m
  · rw [enabledF_unfit hft] at h; cases h
  · rw [enabledF_fit hft] at h; cases h; exact ⟨rfl, rfl⟩
end Go.Tok
namespace Go.Proofs.Ytkekamffmmokmaa
open Go.RowKit Go.Tok
set_option linter.unusedVariables false
set_option linter.unusedSimpArgs false
set_option maxHeartbeats 8000000 in
set_option maxRecDepth 100000 in
theorem ChoiceApart_walk {v u : Value} {N : NetD} {m : List Int} {t : Int} (w : World) (hN : NetR w v N) (hm0 : Ints w u m ∧ m.length ≤ 17592186043904) (ht : I64 t) :
    Calls Try.prog 15 #[v, u, .int .i64 t] w fun e w' => e = .returned (.bool true) ∧ Gr w w' := by
  obtain ⟨hm, _⟩ := hm0
  have hN' := hN
  obtain ⟨a, cap, rfl, hnl, hncap, hpl, hT⟩ := hN.open_
  have hpl1 := hpl.1
  have hpl2 := hpl.2
  obtain ⟨ua, uc, rfl, -, -⟩ := hm.len
  go_enter Try.func15, Try.ntmps15
  go_wp2_with fail
  refine (alive14_calls _).mono ?_
  rintro _ w1 ⟨rfl, g1⟩
  have B0 := box_cell g1 (i := 0) (v := .int .i64 N.places) rfl
  have B1 := box_cell g1 (i := 1) (v := .slice a N.trans.length cap) rfl
  have G1 : Gr w w1 := ((Gr.refl w).alloc _).trans g1
  clear g1
  rcases hL : enabledF N m with ⟨l, e⟩
  rcases hR : fireF N m t with ⟨x, f⟩
  have HL := Lib.hid hL
  have HR := Lib.hid hR
  clear hL hR
  go_wp2_with fail
  refine (Enabled_calls _ _ N m _ (hN'.gr G1) (hm.gr G1)).mono ?_
  rw [HL.out]; rintro _ w2 ⟨v2, rfl, i2, g2⟩
  simp only [] at i2
  obtain ⟨la, lc, rfl, -, -⟩ := i2.len
  have C0 := cell_gr B0 g2
  have C1 := cell_gr B1 g2
  have G2 := G1.trans g2
  clear B0 B1 g2 G1
  go_wp2_with fail
  refine (Fire_calls _ _ N m t _ (hN'.gr G2) (hm.gr G2) ht).mono ?_
  rw [HR.out]; rintro _ w3 ⟨v3, rfl, i3, g3⟩
  simp only [] at i3
  obtain ⟨xa, xc, rfl, -, -⟩ := i3.len
  have D0 := cell_gr C0 g3
  have D1 := cell_gr C1 g3
  have G3 := G2.trans g3
  have I3 := i2.gr g3
  clear C0 C1 g3 G2 i2
  by_cases he : e = 0
  case neg =>
    have heB : (e == 0) = false := by simpa using he
    have heN : (e != 0) = true := by simpa using he
    clear he
    go_wp2_with fail
    go_ret
    exact ⟨rfl, G3⟩
  subst he
  by_cases hf : f = 0
  case neg =>
    have heB : (f == 0) = false := by simpa using hf
    have heN : (f != 0) = true := by simpa using hf
    clear hf
    go_wp2_with fail
    go_ret
    exact ⟨rfl, G3⟩
  subst hf
  obtain ⟨hfit, hll⟩ := enabF_fit HL.out
  obtain ⟨kt, hkt, hF⟩ := fire_ok hfit HR.out
  have hen := enabledF_fit (hF.fits hfit)
  have HLL := Lib.hid hll
  have HFIT := Lib.hid hfit
  have HEN := Lib.hid hen
  clear hll hfit hen hkt hF
  go_wp2_with fail
  refine (Enabled_calls _ _ N x _ (hN'.gr G3) i3).mono ?_
  rw [HEN.out]; rintro _ w4 ⟨v4, rfl, i4, g4⟩
  simp only [] at i4
  obtain ⟨L, hL⟩ : ∃ L, L = enabledL N x := ⟨_, rfl⟩
  rw [← hL] at i4
  have HLX := Lib.hid hL
  obtain ⟨ka, kc, rfl, -, -⟩ := i4.len
  have E0 := cell_gr D0 g4
  have E1 := cell_gr D1 g4
  have G4 := G3.trans g4
  have I4 := I3.gr g4
  clear D0 D1 g4 G3 I3 i3 hL
  go_wp2_with fail
  refine (Clusters_calls _ N _ (hN'.gr G4)).mono ?_
  rintro _ w5 ⟨v5, out, rfl, hans, hrd, g5⟩
  obtain ⟨ra, rc, rfl, hol, hol2⟩ := hrd.len
  have HANS := Lib.hid hans
  have G5 := G4.trans g5
  have I5 := I4.gr g5
  have K5 := i4.gr g5
  clear E0 E1 g5 G4 I4 i4 hans
  go_wp2_with fail
  go_loop [47] (fun q => ∃ k : Nat, q = .int .i64 k ∧ k ≤ out.length) (fun q => out.length - (intOf q).toNat)
  case atStart => exact ⟨0, rfl, Nat.zero_le _⟩
  case round =>
    obtain ⟨k, rfl, hk⟩ := hrel
    by_cases hlt : k < out.length
    · obtain ⟨rb, ro, y, rfl, c0, hI⟩ := hrd.row hlt
      obtain ⟨ya, yc, rfl, hcl, hcl2⟩ := hI.len
      have hkI : (k : Int) < (out.length : Int) := by omega
      obtain ⟨c, hc⟩ : ∃ c, c = ix out k := ⟨_, rfl⟩
      rw [← hc] at hI c0 hcl
      have HC := Lib.hid (show c ∈ out by rw [hc]; exact ix_mem hlt)
      clear hc
      go_wp2_with fail
      go_loop [53] (fun q => ∃ j : Nat, q = .int .i64 j ∧ j ≤ c.length) (fun q => c.length - (intOf q).toNat)
      case atStart => exact ⟨0, rfl, Nat.zero_le _⟩
      case round =>
        obtain ⟨j, rfl, hj⟩ := hrel
        by_cases hjlt : j < c.length
        · obtain ⟨cb, co, hca, e1⟩ := hI.cell hjlt
          subst hca
          have hjI : (j : Int) < (c.length : Int) := by omega
          have hlaw : hasB c t = false → hasB l (nth c j) = true → hasB L (nth c j) = true := by
            intro h1 h2
            rw [HLL.out] at h2
            rw [HLX.out]
            exact ans_apart HANS.out HFIT.out HR.out HC.out (by rw [nth_lt hjlt]; exact List.getElem_mem hjlt) h1 h2
          obtain ⟨z, hz⟩ : ∃ z, z = nth c j := ⟨_, rfl⟩
          rw [← hz] at hlaw e1
          have HLAW := Lib.hid hlaw
          clear hlaw hz
          cases p1 : hasB c t
          case true =>
            go_wp2_with fail
            refine (Contains_calls _ c t _ hI).mono ?_
            rw [p1]; rintro _ _ ⟨rfl, rfl⟩
            go_wp2_with fail
            go_round
            case rel => exact ⟨j + 1, by go_num, hjlt⟩
            case measure => simp [intOf]; omega
          cases p2 : hasB l z
          case false =>
            go_wp2_with fail
            refine (Contains_calls _ c t _ hI).mono ?_
            rw [p1]; rintro _ _ ⟨rfl, rfl⟩
            go_wp2_with fail
            refine (Contains_calls _ l z _ I5).mono ?_
            rw [p2]; rintro _ _ ⟨rfl, rfl⟩
            go_wp2_with fail
            go_round
            case rel => exact ⟨j + 1, by go_num, hjlt⟩
            case measure => simp [intOf]; omega
          have p3 := HLAW.out p1 p2
          go_wp2_with fail
          refine (Contains_calls _ c t _ hI).mono ?_
          rw [p1]; rintro _ _ ⟨rfl, rfl⟩
          go_wp2_with fail
          refine (Contains_calls _ l z _ I5).mono ?_
          rw [p2]; rintro _ _ ⟨rfl, rfl⟩
          go_wp2_with fail
          refine (Contains_calls _ L z _ K5).mono ?_
          rw [p3]; rintro _ _ ⟨rfl, rfl⟩
          go_wp2_with fail
          go_round
          case rel => exact ⟨j + 1, by go_num, hjlt⟩
          case measure => simp [intOf]; omega
        · obtain rfl : j = c.length := by omega
          go_wp2_with fail
          go_round
          case rel => exact ⟨k + 1, by go_num, hlt⟩
          case measure => simp [intOf]; omega
    · obtain rfl : k = out.length := by omega
      go_wp2_with fail
      go_ret
      exact ⟨rfl, G5⟩
end Go.Proofs.Ytkekamffmmokmaa
