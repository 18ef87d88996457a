/- The contract of cover.Limit. -/
import Derived.Test.YtkanaoebpajbfaaCover5
namespace Go.Tok
theorem limitF_bad {N : NetD} {m : List Int} {p most : Int} {ks : List KnotD} {e : Int} (h : treeF N m most = (ks, e)) (he : e ≠ 0) : limitF N m p most = (0, e) := by unfold limitF; rw [h, if_pos he]
theorem limitF_none {N : NetD} {m : List Int} {p most : Int} {ks : List KnotD} (h : treeF N m most = (ks, 0)) (hp : p < 0 ∨ N.places ≤ p) : limitF N m p most = (0, 3) := by unfold limitF; rw [h, if_neg (by simp), if_pos hp]
theorem limitF_ok {N : NetD} {m : List Int} {most : Int} {p : Nat} {ks : List KnotD} (h : treeF N m most = (ks, 0)) (hp : ¬ ((p : Int) < 0 ∨ N.places ≤ p)) : limitF N m p most = (limitL p ks, 0) := by unfold limitF; rw [h, if_neg (by simp), if_neg hp]; simp
theorem limitL_many {p k : Nat} {ks : List KnotD} (hk : k < ks.length) (h : nth (ix ks k).mark p = -1) : limitL p ks = -1 := by
  unfold limitL
  rw [if_pos (List.any_eq_true.2 ⟨ix ks k, ix_mem hk, by simpa using h⟩)]
theorem limitL_no {p : Nat} {ks : List KnotD} (h : ∀ j, j < ks.length → nth (ix ks j).mark p ≠ -1) : limitL p ks = limitTo p ks ks.length := by
  unfold limitL
  rw [if_neg]
  intro hh
  obtain ⟨x, hx, he⟩ := List.any_eq_true.1 hh
  obtain ⟨j, hj, rfl⟩ := List.getElem_of_mem hx
  exact h j hj (by rw [ix_lt hj]; simpa using he)
theorem limitTo_succ (p : Nat) (ks : List KnotD) (k : Nat) : limitTo p ks (k + 1) = max (limitTo p ks k) (nth (ix ks k).mark p) := rfl
end Go.Tok
namespace Go.Proofs.Ytkanaoebpajbfaa
open Go.RowKit Go.Tok
set_option linter.unusedVariables false
set_option linter.unusedSimpArgs false
def RetLim (w : World) (r : Int × Int) (e : Ending) (w' : World) : Prop := e = .returned (.tuple #[.int .i64 r.1, .int .i64 r.2]) ∧ Gr w w'
set_option maxRecDepth 100000 in
set_option maxHeartbeats 4000000 in
theorem Limit_calls (v u : Value) (N : NetD) (m : List Int) (p most : Int) (w : World) (hN : NetR w v N) (hu : Ints w u m) (hp : I64 p) (hI : I64 most) :
    Calls Try.prog 42 #[v, u, .int .i64 p, .int .i64 most] w (RetLim w (limitF N m p most)) := by
  have hN' := hN
  obtain ⟨a, cap, rfl, hnl, hncap, hpl, hT⟩ := hN.open_
  have hpl1 := hpl.1
  have hpl2 := hpl.2
  obtain ⟨ua, uc, rfl, ul, ul'⟩ := hu.len
  have GA : Gr w (w.alloc (.cells #[.int .i64 N.places, .slice a N.trans.length cap] 24)) := (Gr.refl w).alloc _
  have bN : Blk (w.alloc (.cells #[.int .i64 N.places, .slice a N.trans.length cap] 24)) w.heap.size 24 #[.int .i64 N.places, .slice a N.trans.length cap] := Blk.new rfl
  rcases ht : treeF N m most with ⟨ks, e⟩
  have HT := Lib.hid ht
  clear ht
  go_enter Try.func42, Try.ntmps42
  go_wp2_with fail
  refine (Tree_calls _ _ N m most _ (hN'.gr GA) (hu.gr GA) hI).mono ?_
  rw [HT.out]
  rintro _ w1 ⟨vl, rfl, hl, g1⟩
  obtain ⟨la, lc, rfl, -, -⟩ := hl.len
  simp only [] at hl
  have GW := GA.trans g1
  by_cases he : e = 0
  · subst he
    obtain ⟨m1, m2, hf, hTr⟩ := tree_ok HT.out
    have C0 := (bN.gr g1).cell (i := 0) (v := .int .i64 N.places) rfl
    clear bN g1
    by_cases hp0 : p < 0
    · have HL := Lib.hid (limitF_none HT.out (.inl hp0))
      go_wp2_with fail
      go_ret2
      rw [HL.out]
      exact ⟨rfl, GW⟩
    by_cases hp1 : N.places ≤ p
    · have HL := Lib.hid (limitF_none HT.out (.inr hp1))
      go_wp2_with fail
      go_ret2
      rw [HL.out]
      exact ⟨rfl, GW⟩
    obtain ⟨pn, rfl⟩ := Int.eq_ofNat_of_zero_le (show 0 ≤ p by omega)
    have HL := Lib.hid (limitF_ok HT.out (p := pn) (by omega))
    have HLN := Lib.hid hTr.lens
    have hks : ks.length ≤ 300 := by have := hTr.le; omega
    have hml := fits_len hf
    have HR := Lib.hid hl
    have HGW := Lib.hid GW
    clear hTr hf hl GW GA
    go_wp2_with fail
    go_loopw [12, 35] (fun o q wr => ∃ k : Nat, q = .int .i64 k ∧ k ≤ ks.length ∧ o = .int .i64 (limitTo pn ks k) ∧ (∀ j, j < k → nth (ix ks j).mark pn ≠ -1) ∧ Gr w1 wr) (fun _ q _ => ks.length - (intOf q).toNat)
    case atStart => exact ⟨0, rfl, Nat.zero_le _, rfl, fun j hj => by omega, Gr.refl _⟩
    case round =>
      rename World => wr
      obtain ⟨k, rfl, hk, rfl, hno, hgr⟩ := hrel
      have HNO := Lib.hid hno
      clear hno
      by_cases hlt : k < ks.length
      · obtain ⟨b, o, um, rfl, c0, c1, c2, hum⟩ := (HR.out.gr hgr).knot hlt
        obtain ⟨ma, mc, rfl, -, -⟩ := hum.len
        have hlen := HLN.out k hlt
        obtain ⟨mb, mo, rfl, d0⟩ := hum.cell (i := pn) (by omega)
        have hkI : (k : Int) < (ks.length : Int) := by omega
        have hk0 : (0 : Int) ≤ (k : Int) := by omega
        have hpI : (pn : Int) < ((ix ks k).mark.length : Int) := by omega
        have bK : Blk (wr.alloc (.cells #[.int .i64 (ix ks k).up, .int .i64 (ix ks k).tran, .slice (some ⟨mb, mo, none⟩) (ix ks k).mark.length mc] 33)) wr.heap.size 33 #[.int .i64 (ix ks k).up, .int .i64 (ix ks k).tran, .slice (some ⟨mb, mo, none⟩) (ix ks k).mark.length mc] := Blk.new rfl
        have K2 := bK.cell (i := 2) (v := .slice (some ⟨mb, mo, none⟩) (ix ks k).mark.length mc) rfl
        have gK : Gr wr (wr.alloc (.cells #[.int .i64 (ix ks k).up, .int .i64 (ix ks k).tran, .slice (some ⟨mb, mo, none⟩) (ix ks k).mark.length mc] 33)) := (Gr.refl _).alloc _
        have D0 := cell_gr d0 gK
        have HGK := Lib.hid (hgr.trans gK)
        obtain ⟨x, hx⟩ : ∃ x, x = nth (ix ks k).mark pn := ⟨_, rfl⟩
        rw [← hx] at D0 d0
        have HX := Lib.hid hx
        have hlt0 : (0 : Int) ≤ (pn : Int) := by omega
        obtain ⟨mx, hmx, hrun⟩ : ∃ mx : Int, mx = limitTo pn ks (k + 1) ∧ ∀ w, (Builtin.max_ #[3, 3] 3 #[.int .i64 (limitTo pn ks k), .int .i64 x]).run Try.prog w = .ok (.int .i64 mx) w := by
          refine ⟨max (limitTo pn ks k) x, by rw [limitTo_succ, hx], fun w => ?_⟩
          by_cases h : limitTo pn ks k < x
          · rw [Int.max_eq_right (by omega)]; simp [Builtin.max_, Builtin.max2, h]; try rfl
          · rw [Int.max_eq_left (by omega)]; simp [Builtin.max_, Builtin.max2, h]; try rfl
        have HMX := Lib.hid hmx
        clear hx hmx bK gK hum hlen
        by_cases hm : x = -1
        · have hmB : (x == -1) = true := by simpa using hm
          have HM := Lib.hid (limitL_many hlt (by rw [← HX.out]; exact hm))
          clear hm
          go_wp2_with fail
          go_ret2
          rw [HL.out, HM.out]
          exact ⟨rfl, HGW.out.trans HGK.out⟩
        · have hmB : (x == -1) = false := by simpa using hm
          have hno2 : ∀ j, j < k + 1 → nth (ix ks j).mark pn ≠ -1 := fun j hj => by
            by_cases e : j = k
            · subst e; rw [← HX.out]; exact hm
            · exact HNO.out j (by omega)
          have HNO2 := Lib.hid hno2
          clear hm hno2
          go_wp2_with fail
          go_roundw
          case rel => exact ⟨k + 1, by go_num, hlt, by rw [HMX.out], HNO2.out, HGK.out⟩
          case measure => simp [intOf]; omega
      · obtain rfl : k = ks.length := by omega
        have HM := Lib.hid (limitL_no HNO.out)
        go_wp2_with fail
        go_ret2
        rw [HL.out, HM.out]
        exact ⟨rfl, HGW.out.trans hgr⟩
  · have heB : (e == 0) = false := by simpa using he
    have heN : (e != 0) = true := by simpa using he
    have HL := Lib.hid (limitF_bad (p := p) HT.out he)
    clear bN g1
    go_wp2_with fail
    go_ret2
    rw [HL.out]
    exact ⟨rfl, GW⟩
end Go.Proofs.Ytkanaoebpajbfaa
