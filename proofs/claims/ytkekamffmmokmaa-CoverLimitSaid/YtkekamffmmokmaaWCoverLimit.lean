/- The call CoverLimit answers true at any net, mark, place, limit and sequence that read as data; nothing that lay there turns. -/
import Derived.Test.YtkekamffmmokmaaAlive5
namespace Go.Tok
theorem limitF_zero {N : NetD} {m : List Int} {p most K e : Int} (h : limitF N m p most = (K, e)) (he : e ≠ 0) : K = 0 := by
  unfold limitF at h
  split at h
  · exact (Prod.mk.inj h).1.symm
  · split at h
    · exact (Prod.mk.inj h).1.symm
    · exact absurd (Prod.mk.inj h).2.symm he
theorem limit_law {N : NetD} {m q x : List Int} {p most K : Int} (h : limitF N m p most = (K, 0)) (hr : runF N m q = (x, 0)) : 0 ≤ p ∧ p < (x.length : Int) ∧ (K = -1 ∨ nth x p.toNat ≤ K) := by
  rcases ht : treeF N m most with ⟨ks, e⟩
  by_cases he : e = 0
  · subst he
    obtain ⟨_, _, hf, hT⟩ := tree_ok ht
    by_cases hp : p < 0 ∨ N.places ≤ p
    · rw [limitF_none ht hp] at h; exact absurd (Prod.mk.inj h).2 (by decide)
    · obtain ⟨pn, rfl⟩ := Int.eq_ofNat_of_zero_le (show 0 ≤ p by omega)
      rw [limitF_ok ht hp] at h
      obtain ⟨h1, h2⟩ := cover_limit hT hr (p := pn) (by omega)
      rw [(Prod.mk.inj h).1] at h2
      exact ⟨by omega, by omega, h2⟩
  · rw [limitF_bad ht he] at h; exact absurd (Prod.mk.inj h).2 he
end Go.Tok
namespace Go.Proofs.Ytkekamffmmokmaa
open Go.RowKit Go.Tok
set_option linter.unusedVariables false
set_option linter.unusedSimpArgs false
set_option maxHeartbeats 4000000 in
set_option maxRecDepth 100000 in
theorem CoverLimit_walk {v u z : Value} {N : NetD} {m seq : List Int} {p most : Int} (w : World) (hN : NetR w v N) (hm0 : Ints w u m ∧ m.length ≤ 17592186043904) (hp : I64 p) (hmo : I64 most) (hz0 : Ints w z seq ∧ seq.length ≤ 17592186043904) :
    Calls Try.prog 4 #[v, u, .int .i64 p, .int .i64 most, z] w fun e w' => e = .returned (.bool true) ∧ Gr w w' := by
  obtain ⟨hm, _⟩ := hm0
  obtain ⟨hz, _⟩ := hz0
  have hN' := hN
  obtain ⟨a, cap, rfl, hnl, hncap, hpl, hT⟩ := hN.open_
  have hpl1 := hpl.1
  have hpl2 := hpl.2
  obtain ⟨ua, uc, rfl, _, _⟩ := hm.len
  obtain ⟨za, zc, rfl, _, _⟩ := hz.len
  rcases hL : limitF N m p most with ⟨K, e⟩
  rcases hR : runF N m seq with ⟨x, f⟩
  have HL := Lib.hid hL
  have HR := Lib.hid hR
  clear hL hR
  go_enter Try.func4, Try.ntmps4
  go_wp2_with fail
  refine (alive5_calls _).mono ?_
  rintro _ w1 ⟨rfl, g1⟩
  have B0 := box_cell g1 (i := 0) (v := .int .i64 N.places) rfl
  have B1 := box_cell g1 (i := 1) (v := .slice a N.trans.length cap) rfl
  have GW : Gr w w1 := ((Gr.refl w).alloc _).trans g1
  clear g1
  go_wp2_with fail
  refine (Limit_calls _ _ N m p most _ (hN'.gr GW) (hm.gr GW) hp hmo).mono ?_
  rw [HL.out]; rintro _ w2 ⟨rfl, g2⟩
  have C0 := cell_gr B0 g2
  have C1 := cell_gr B1 g2
  have GW2 := GW.trans g2
  have HGW := Lib.hid GW2
  clear B0 B1 g2 GW
  go_wp2_with fail
  refine (Run_calls _ _ _ N m seq _ (hN'.gr GW2) (hm.gr GW2) (hz.gr GW2)).mono ?_
  rw [HR.out]; rintro _ w3 ⟨v3, rfl, i3, g3⟩
  obtain ⟨xa, xc, rfl, _, _⟩ := i3.len
  simp only [] at i3
  have GF := Lib.hid (GW2.trans g3)
  clear GW2
  by_cases he : e = 0
  · subst he
    by_cases hf : f = 0
    · subst hf
      obtain ⟨l1, l2, l3⟩ := limit_law HL.out HR.out
      obtain ⟨pn, rfl⟩ := Int.eq_ofNat_of_zero_le l1
      obtain ⟨xb, xo, rfl, X0⟩ := i3.cell (i := pn) (by omega)
      by_cases hK : K = -1
      · have hKB : (K == -1) = true := by simpa using hK
        clear hK
        go_wp2_with fail
        go_ret
        exact ⟨rfl, GF.out⟩
      · have hKB : (K == -1) = false := by simpa using hK
        have hle : nth x pn ≤ K := by
          rcases l3 with h | h
          · exact absurd h hK
          · simpa using h
        clear hK l3
        go_wp2_with fail
        go_ret
        exact ⟨rfl, GF.out⟩
    · have hfB : (f != 0) = true := by simpa using hf
      have hfB2 : (f == 0) = false := by simpa using hf
      clear hf
      go_wp2_with fail
      go_ret
      exact ⟨rfl, GF.out⟩
  · have heB : (e != 0) = true := by simpa using he
    have heB2 : (e == 0) = false := by simpa using he
    obtain rfl := limitF_zero HL.out he
    clear he
    go_wp2_with fail
    go_ret
    exact ⟨rfl, GF.out⟩
end Go.Proofs.Ytkekamffmmokmaa
