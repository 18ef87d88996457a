/- The walk of GrowFree: at every block it answers true. -/
import Derived.Test.YtajmccjnoejmfaaAlive11
import Derived.Test.YtajmccjnoejmfaaGrowLaw3
namespace Go.Proofs.Ytajmccjnoejmfaa
open Go.RowKit Go.Tok
set_option linter.unusedVariables false
theorem growN_ok {n : Nat} {b : BlockD} {w : World} {v : Value} {N : NetD} (hr : BlockR n w v b) (h : growN (n + 1) b = (N, 0)) : ∃ s, OkB (n + 1) b ∧ growF (n + 1) b 0 1 ⟨2, []⟩ = some s ∧ N = netOf s := by
  unfold growN at h
  split at h
  · rename_i hw
    cases hf : growF (n + 1) b 0 1 ⟨2, []⟩ with
    | none => rw [hf] at h; exact absurd (Prod.mk.inj h).2 (by decide)
    | some s => rw [hf] at h; exact ⟨s, wrongB_ok hr hw, rfl, (Prod.mk.inj h).1.symm⟩
  · rename_i hw
    exact absurd (Prod.mk.inj h).2 hw
theorem growN_free {n : Nat} {b : BlockD} {w : World} {v : Value} {N : NetD} (hr : BlockR n w v b) (h : growN (n + 1) b = (N, 0)) : netOkB N = true ∧ ∀ i j p, i < N.trans.length → j < N.trans.length → 0 < nth (N.tr i).pre p → 0 < nth (N.tr j).pre p → (N.tr i).pre = (N.tr j).pre := by
  obtain ⟨s, h1, h2, rfl⟩ := growN_ok hr h
  exact ⟨grown_net (grow_ok h1 h2), fun i j p hi hj a b => net_free h1 h2 hi hj a b⟩
theorem growN_bad {n : Nat} {b : BlockD} {N : NetD} {e : Int} (h : growN (n + 1) b = (N, e)) (he : e ≠ 0) : N = ⟨0, []⟩ := by
  unfold growN at h
  split at h
  · cases hf : growF (n + 1) b 0 1 ⟨2, []⟩ with
    | none => rw [hf] at h; exact (Prod.mk.inj h).1.symm
    | some s => rw [hf] at h; exact absurd (Prod.mk.inj h).2.symm he
  · exact (Prod.mk.inj h).1.symm
set_option maxHeartbeats 8000000 in
set_option maxRecDepth 100000 in
theorem GrowFree_walk {v : Value} {x : Nat × BlockD} (w : World) (h : BlockR x.1 w v x.2) : Calls Try.prog 3 #[v] w fun e w' => e = .returned (.bool true) ∧ Gr w w' := by
  obtain ⟨_, _, ba, bc, rfl, _, _, hK⟩ := h.open_
  have h0 := h
  have b0 : Blk (w.alloc (.cells #[.int .i64 x.2.kind, .int .i64 x.2.label, .slice ba x.2.kids.length bc] 24)) w.heap.size 24 #[.int .i64 x.2.kind, .int .i64 x.2.label, .slice ba x.2.kids.length bc] := Blk.new rfl
  have GA : Gr w (w.alloc (.cells #[.int .i64 x.2.kind, .int .i64 x.2.label, .slice ba x.2.kids.length bc] 24)) := (Gr.refl _).alloc _
  rcases hg : growN (x.1 + 1) x.2 with ⟨N, e⟩
  have HGN := Lib.hid hg
  clear hg
  go_enter Try.func3, Try.ntmps3
  go_wp2_with fail
  refine (alive11_calls _).mono ?_
  rintro _ w1 ⟨rfl, g1⟩
  replace b0 := b0.gr g1
  have GB := GA.trans g1
  have c0 := b0.cell (i := 0) (v := .int .i64 x.2.kind) rfl
  have c1 := b0.cell (i := 1) (v := .int .i64 x.2.label) rfl
  have c2 := b0.cell (i := 2) (v := .slice ba x.2.kids.length bc) rfl
  go_wp2_with fail
  refine (Grow_calls x.1 _ x.2 _ (h.gr GB)).mono ?_
  rintro _ w2 hr
  obtain ⟨v2, rfl, hN, g2⟩ := hr.out
  rw [HGN.out] at hN ⊢
  simp only [] at hN ⊢
  obtain ⟨na, nc, rfl, hnl, hncap, hpl, hT⟩ := hN.open_
  have GC := GB.trans g2
  have nx : Blk (w2.alloc (.cells #[.int .i64 N.places, .slice na N.trans.length nc] 28)) w2.heap.size 28 #[.int .i64 N.places, .slice na N.trans.length nc] := Blk.new rfl
  have gx : Gr w2 (w2.alloc (.cells #[.int .i64 N.places, .slice na N.trans.length nc] 28)) := (Gr.refl _).alloc _
  have x0 := nx.cell (i := 0) (v := .int .i64 N.places) rfl
  have x1 := nx.cell (i := 1) (v := .slice na N.trans.length nc) rfl
  clear c0 c1 c2 b0 hr GA g1 g2
  by_cases he : e = 0
  case neg =>
    have he1 : (e != 0) = true := by simpa using he
    have he2 : (e == 0) = false := by simpa using he
    clear he
    go_wp2_with fail
    go_ret
    exact ⟨rfl, GC.trans gx⟩
  subst he
  obtain ⟨hok, hfree⟩ := growN_free h0 HGN.out
  have HFree := Lib.hid hfree
  have HOk := Lib.hid hok
  have hpp := netOk_sizes hok
  obtain ⟨hp0, hp16, hn24⟩ := hpp
  obtain ⟨P, hP⟩ := Int.eq_ofNat_of_zero_le hp0
  have HP := Lib.hid hP
  clear hfree hok hP
  go_wp2_with fail
  go_loopw [22] (fun i wr => ∃ k : Nat, i = .int .i64 k ∧ k ≤ N.trans.length ∧ Gr (w2.alloc (.cells #[.int .i64 N.places, .slice na N.trans.length nc] 28)) wr) (fun i _ => N.trans.length - (intOf i).toNat)
  case atStart => exact ⟨0, rfl, Nat.zero_le _, Gr.refl _⟩
  case round =>
    rename World => wr
    obtain ⟨k, rfl, hkl, hgr⟩ := hrel
    by_cases hlt : k < N.trans.length
    · obtain ⟨tb, to, tp, tq, rfl, q0, q1, q2, tl, htp, htq⟩ := (hT.gr (gx.trans hgr)).at_ hlt
      obtain ⟨tpa, tpc, rfl, tp1, tp2⟩ := htp.len
      obtain ⟨tqa, tqc, rfl, tq1, tq2⟩ := htq.len
      have hkI : (k : Int) < (N.trans.length : Int) := by omega
      have hkc : (k : Int) ≤ (nc : Int) := by omega
      have X1 := cell_gr x1 (hgr.trans ((Gr.refl _).alloc (.cells #[.int .i64 (N.tr k).label, .slice tpa (N.tr k).pre.length tpc, .slice tqa (N.tr k).post.length tqc] 34)))
      have tx : Blk (wr.alloc (.cells #[.int .i64 (N.tr k).label, .slice tpa (N.tr k).pre.length tpc, .slice tqa (N.tr k).post.length tqc] 34)) wr.heap.size 34 #[.int .i64 (N.tr k).label, .slice tpa (N.tr k).pre.length tpc, .slice tqa (N.tr k).post.length tqc] := Blk.new rfl
      have GT : Gr wr (wr.alloc (.cells #[.int .i64 (N.tr k).label, .slice tpa (N.tr k).pre.length tpc, .slice tqa (N.tr k).post.length tqc] 34)) := (Gr.refl _).alloc _
      go_wp2_with fail
      go_loopw [32] (fun i wq => ∃ j : Nat, i = .int .i64 j ∧ j ≤ k ∧ Gr (wr.alloc (.cells #[.int .i64 (N.tr k).label, .slice tpa (N.tr k).pre.length tpc, .slice tqa (N.tr k).post.length tqc] 34)) wq) (fun i _ => k - (intOf i).toNat)
      case atStart => exact ⟨0, rfl, Nat.zero_le _, Gr.refl _⟩
      case round =>
        rename World => wq
        obtain ⟨j, rfl, hjl, hgq⟩ := hrel
        by_cases hjt : j < k
        · have hjn : j < N.trans.length := by omega
          have hjI : (j : Int) < (k : Int) := by omega
          obtain ⟨ub, uo, up, uq, hadd, r0, r1, r2, ul, hup, huq⟩ := (hT.gr (((gx.trans hgr).trans GT).trans hgq)).at_ hjn
          cases hadd
          obtain ⟨upa, upc, rfl, up1, up2⟩ := hup.len
          obtain ⟨uqa, uqc, rfl, uq1, uq2⟩ := huq.len
          have GU : Gr wq (wq.alloc (.cells #[.int .i64 (N.tr j).label, .slice upa (N.tr j).pre.length upc, .slice uqa (N.tr j).post.length uqc] 34)) := (Gr.refl _).alloc _
          have ux : Blk (wq.alloc (.cells #[.int .i64 (N.tr j).label, .slice upa (N.tr j).pre.length upc, .slice uqa (N.tr j).post.length uqc] 34)) wq.heap.size 34 #[.int .i64 (N.tr j).label, .slice upa (N.tr j).pre.length upc, .slice uqa (N.tr j).post.length uqc] := Blk.new rfl
          have X0 := cell_gr x0 (((hgr.trans GT).trans hgq).trans GU)
          go_wp2_with fail
          go_loopw [38] (fun i wp => ∃ p : Nat, i = .int .i64 p ∧ p ≤ P ∧ Gr (wq.alloc (.cells #[.int .i64 (N.tr j).label, .slice upa (N.tr j).pre.length upc, .slice uqa (N.tr j).post.length uqc] 34)) wp) (fun i _ => P - (intOf i).toNat)
          case atStart => exact ⟨0, rfl, Nat.zero_le _, Gr.refl _⟩
          case round =>
            rename World => wp
            obtain ⟨p, rfl, hppl, hgp⟩ := hrel
            by_cases hpt : p < P
            · have hpI : (p : Int) < N.places := by have := HP.out; omega
              have lt := (netOk_tr HOk.out hlt).pre
              have lu := (netOk_tr HOk.out hjn).pre
              have hpt1 : (p : Int) < ((N.tr k).pre.length : Int) := by omega
              have hpu1 : (p : Int) < ((N.tr j).pre.length : Int) := by omega
              have t1 := (tx.gr ((hgq.trans GU).trans hgp)).cell (i := 1) (v := .slice tpa (N.tr k).pre.length tpc) rfl
              have u1 := (ux.gr hgp).cell (i := 1) (v := .slice upa (N.tr j).pre.length upc) rfl
              have htp' := htp.gr (((GT.trans hgq).trans GU).trans hgp)
              have hup' := hup.gr (GU.trans hgp)
              obtain ⟨tpb, tpo, hta, tc⟩ := htp'.cell (i := p) (by omega)
              obtain ⟨upb, upo, hua, uc⟩ := hup'.cell (i := p) (by omega)
              cases hta
              cases hua
              clear lt lu
              by_cases hz : 0 < nth (N.tr k).pre p
              · by_cases hy : 0 < nth (N.tr j).pre p
                · have heq := (eqB_iff _ _).2 (HFree.out k j p hlt hjn hz hy)
                  go_wp2_with fail
                  refine (Equal_calls _ _ (N.tr k).pre (N.tr j).pre _ htp' hup').mono ?_
                  rintro _ w9 ⟨rfl, g9⟩
                  rw [heq]
                  go_wp2_with fail
                  go_roundw
                  case rel => exact ⟨p + 1, by go_num, by omega, hgp.trans g9⟩
                  case measure => simp [intOf]; omega
                · go_wp2_with fail
                  go_roundw
                  case rel => exact ⟨p + 1, by go_num, by omega, hgp⟩
                  case measure => simp [intOf]; omega
              · go_wp2_with fail
                go_roundw
                case rel => exact ⟨p + 1, by go_num, by omega, hgp⟩
                case measure => simp [intOf]; omega
            · obtain rfl : p = P := by omega
              have hpI : ¬ (p : Int) < N.places := by have := HP.out; omega
              go_wp2_with fail
              go_roundw
              case rel => exact ⟨j + 1, by go_num, by omega, (hgq.trans GU).trans hgp⟩
              case measure => simp [intOf]; omega
        · obtain rfl : j = k := by omega
          go_wp2_with fail
          go_roundw
          case rel => exact ⟨j + 1, by go_num, by omega, (hgr.trans GT).trans hgq⟩
          case measure => simp [intOf]; omega
    · obtain rfl : k = N.trans.length := by omega
      go_wp2_with fail
      go_ret
      exact ⟨rfl, (GC.trans gx).trans hgr⟩
end Go.Proofs.Ytajmccjnoejmfaa
