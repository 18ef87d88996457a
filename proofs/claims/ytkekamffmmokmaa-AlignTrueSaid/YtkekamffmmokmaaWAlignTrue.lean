/- The walk of AlignTrue: at every net, marks and trace it answers true. -/
import Derived.Test.YtkekamffmmokmaaAlive21
import Derived.Test.YtkekamffmmokmaaAl7
import Derived.Test.YtkekamffmmokmaaGN
namespace Go.Proofs.Ytkekamffmmokmaa
open Go.RowKit Go.Tok
set_option linter.unusedVariables false
set_option linter.unusedSimpArgs false
set_option maxHeartbeats 8000000 in
set_option maxRecDepth 100000 in
theorem AlignTrue_walk {v u : Value} {N : NetD} {i o : Int} {tr : List Int} (w : World) (hN : NetR w v N) (hi : I64 i) (ho : I64 o) (h2 : Ints w u tr ∧ tr.length ≤ 17592186043904) :
    Calls Try.prog 7 #[v, .int .i64 i, .int .i64 o, u] w fun e w' => e = .returned (.bool true) ∧ Gr w w' := by
  obtain ⟨hu, hul⟩ := h2
  have hN' := hN
  obtain ⟨a, cap, rfl, hnl, hncap, hpl, hT⟩ := hN.open_
  have hpl1 := hpl.1
  have hpl2 := hpl.2
  obtain ⟨ua, uc, rfl, _, _⟩ := hu.len
  have b0 : Blk (w.alloc (.cells #[.int .i64 N.places, .slice a N.trans.length cap] 24)) w.heap.size 24 #[.int .i64 N.places, .slice a N.trans.length cap] := Blk.new rfl
  have G0 : Gr w (w.alloc (.cells #[.int .i64 N.places, .slice a N.trans.length cap] 24)) := (Gr.refl _).alloc _
  go_enter Try.func7, Try.ntmps7
  go_wp2_with fail
  refine (alive21_calls _).mono ?_
  rintro _ w1 ⟨rfl, g1⟩
  have b1 := b0.gr g1
  have C0 := b1.cell (i := 0) (v := .int .i64 N.places) rfl
  have C1 := b1.cell (i := 1) (v := .slice a N.trans.length cap) rfl
  have GW := G0.trans g1
  clear b0 G0 g1
  go_wp2_with fail
  refine (Align_calls _ _ N i o tr _ (hN'.gr GW) hi ho (hu.gr GW)).mono ?_
  rintro _ w2 ⟨v2, l, c, x, rfl, r2, g2, hM, hcb, hlb⟩
  obtain ⟨la, lc, rfl, hlc1, hlc2⟩ := r2.len
  replace b1 := b1.gr g2
  have G2 := GW.trans g2
  clear g2 GW C0 C1
  by_cases hx : x = 0
  case neg =>
    obtain ⟨_, rfl⟩ := hM.1 hx
    have q1 : (x != 0) = true := by simpa using hx
    clear hM hx r2
    go_wp2_with fail
    go_ret
    exact ⟨rfl, G2.trans (by (repeat (first | exact Gr.refl _ | assumption | apply Gr.alloc | apply Gr.drew | apply Gr.drewN | refine Gr.trans ?_ (by assumption))))⟩
  case pos =>
    subst hx
    have HT := Lib.hid (true_law hM)
    have HK := Lib.hid (show ∀ k, k < l.length → OkM N (ix l k) from fun k hk => (true_law hM).1 _ (ix_mem hk))
    have HT2 := Lib.hid (hT.gr G2)
    have HN2 := Lib.hid (hN'.gr G2)
    have HU2 := Lib.hid (hu.gr G2)
    clear hM hT hN hN' hu
    have T := intTy
    go_wp2_with fail
    go_loopw [12, 13, 14, 36] (fun qv sv cv kv wr => ∃ (k : Nat) (qq ss : Value), qq = qv ∧ ss = sv ∧ cv = .int .i64 ((costM (l.take k) : Nat) : Int) ∧ kv = .int .i64 k ∧ k ≤ l.length ∧ OwnI 3 w2.heap.size wr qq (seqM (l.take k)) ∧ OwnI 3 w2.heap.size wr ss (seenM (l.take k)) ∧ (∀ g, qq.ownBlock = some g → ss.ownBlock ≠ some g) ∧ Gr w2 wr) (fun _ _ _ kv _ => l.length - (intOf kv).toNat)
    case atStart => exact ⟨0, _, _, rfl, rfl, rfl, rfl, Nat.zero_le _, OwnI.nil _ _ _, OwnI.nil _ _ _, (fun g h => by have h' : (none : Option Nat) = some _ := h; cases h'), Gr.refl _⟩
    case round =>
      rename World => wr
      obtain ⟨k, qq, ss, rfl, rfl, rfl, rfl, hk, hq, hs, hne, hgr⟩ := hrel
      have hql := seqM_len (l.take k)
      have hsl := seenM_len (l.take k)
      have hcl := costM_len (l.take k)
      rw [List.length_take, Nat.min_eq_left hk] at hql hsl hcl
      by_cases hlt : k < l.length
      · have HO := Lib.hid (HK.out k hlt)
        have hkI : (k : Int) < (l.length : Int) := by omega
        obtain ⟨mb, mo, rfl, m0, m1, m2, hmI⟩ := (r2.gr hgr).move hlt
        have htk := take_more hlt
        obtain ⟨m, hm⟩ : ∃ m, m = ix l k := ⟨_, rfl⟩
        rw [← hm] at m0 m1 m2 hmI HO htk
        clear hm
        have hB1 : ∀ q, qq.ownBlock = some q → q < wr.heap.size := fun q h => (hq.lt h).2
        have hB2 : ∀ q, ss.ownBlock = some q → q < wr.heap.size := fun q h => (hs.lt h).2
        have hzz := hgr.le
        obtain ⟨kd, lb, tn⟩ := m
        rcases HO.out with hk2 | ⟨hk13, t, htn, ht, hlab⟩
        · have hk2 : kd = 2 := hk2
          subst hk2
          have E1 := Lib.hid (show seqM (l.take (k + 1)) = seqM (l.take k) by rw [htk, seqM_snoc, if_pos rfl, List.append_nil])
          have E2 := Lib.hid (show seenM (l.take (k + 1)) = seenM (l.take k) ++ [lb] by rw [htk, seenM_snoc, if_neg (by simp)])
          have E3 := Lib.hid (show costM (l.take (k + 1)) = costM (l.take k) + 1 by rw [htk, costM_snoc, if_pos (by unfold paysM; simp)])
          have HBB := Lib.hid (show ∀ ob, Blk ((wr.alloc (.cells #[.int .i64 2, .int .i64 lb, .int .i64 tn] 57)).alloc ob) wr.heap.size 57 #[.int .i64 2, .int .i64 lb, .int .i64 tn] from fun ob => (Blk.new rfl).gr ((Gr.refl _).alloc _))
          have HNS := Lib.hid (show some wr.heap.size ≠ ss.ownBlock from fun e => by have := hB2 _ e.symm; omega)
          have HS := Lib.hid hs
          have HQ := Lib.hid hq
          have HG := Lib.hid hgr
          have HI := Lib.hid hmI.2.1
          clear htk HO hs hq hgr hmI
          go_wp2_with (at_builtin; refine app_int T _ _ w2.heap.size _ (seenM (l.take k)) ⟨wr.heap.size + 1, 0, none⟩ lb (by rfl) (by rfl) (by rfl) (by rfl) (HS.out.gr (((Gr.refl _).alloc _).alloc _)) (lit_cell (by simp)) HI.out (by omega) (by simp; omega) ?_; intro sv' x1 hs1 hg1 hgb1 hat1; have bB := (HBB.out _).grown hgb1 HNS.out; have B0 := bB.cell (i := 0) (v := .int .i64 2) rfl; have B1 := bB.cell (i := 1) (v := .int .i64 lb) rfl)
          have hq1 := (HQ.out.gr (((Gr.refl _).alloc _).alloc _)).grown hgb1 (by
  cases hz : qq.ownBlock with
  | none => exact .inl rfl
  | some q => exact .inr (fun e => hne q hz e.symm))
          have G1 := hg1 w2 (Nat.le_refl _) (HG.out.trans (((Gr.refl _).alloc _).alloc _))
          go_roundw
          case rel => exact ⟨k + 1, qq, sv', rfl, rfl, by rw [E3.out]; rfl, by go_num, by omega, by rw [E1.out]; exact hq1, by rw [E2.out]; exact hs1, (fun g hg => by
            have h1 := hB1 g hg
            rcases hat1 with h | h
            · rw [h]; exact hne g hg
            · rw [h]; intro e; have := Option.some.inj e; simp at this; omega), G1⟩
          case measure => simp [intOf]; omega
        · have hlab : (N.tr t).label = lb := hlab
          have htn : tn = (t : Int) := htn
          subst htn
          have E1 := Lib.hid (show seqM (l.take (k + 1)) = seqM (l.take k) ++ [(t : Int)] by
            rw [htk, seqM_snoc, if_neg (by rcases hk13 with ⟨h, _⟩ | h <;> (have h : kd = _ := h; simp; omega))])
          rcases hk13 with ⟨hk1, hlp⟩ | hk3
          · have hk1 : kd = 1 := hk1
            have hlp : 0 < lb := hlp
            subst hk1
            have E2 := Lib.hid (show seenM (l.take (k + 1)) = seenM (l.take k) ++ [lb] by rw [htk, seenM_snoc, if_neg (by simp)])
            have E3 := Lib.hid (show costM (l.take (k + 1)) = costM (l.take k) by rw [htk, costM_snoc, if_neg (by unfold paysM; simp)]; rfl)
            have n8 : (lb == 0) = false := by rw [Bool.eq_false_iff]; intro h; rw [beq_iff_eq] at h; omega
            have bz := b1.gr hgr
            have C1 := bz.cell (i := 1) (v := .slice a N.trans.length cap) rfl
            obtain ⟨tb, tf, vp, vq, rfl, d0, _, _, _, _, _⟩ := (HT2.out.gr hgr).at_ ht
            rw [hlab] at d0
            have n1 : decide ((t : Int) < 0) = false := by simp
            have n2 : decide ((N.trans.length : Int) ≤ (t : Int)) = false := by simp; omega
            have n3 : (lb != lb) = false := by simp
            have n4 : ¬ (t : Int) < 0 := by omega
            have n5 : ¬ (N.trans.length : Int) ≤ (t : Int) := by omega
            have n6 : (t : Int) < (N.trans.length : Int) := by omega
            have n7 : (0 : Int) ≤ (t : Int) := by omega
            have GB : Gr wr (wr.alloc (.cells #[.int .i64 1, .int .i64 lb, .int .i64 (t : Int)] 57)) := (Gr.refl _).alloc _
            have bB : Blk (wr.alloc (.cells #[.int .i64 1, .int .i64 lb, .int .i64 (t : Int)] 57)) wr.heap.size 57 #[.int .i64 1, .int .i64 lb, .int .i64 (t : Int)] := Blk.new rfl
            have HIt := Lib.hid (show I64 (t : Int) from hmI.2.2)
            have HIl := Lib.hid (show I64 lb from hmI.2.1)
            have HQ0 := Lib.hid hq
            have HS0 := Lib.hid hs
            have HG0 := Lib.hid hgr
            clear htk HO hs hq hgr hmI bz hlab
            go_wp2_with fail
            generalize wr.alloc (.cells #[.int .i64 1, .int .i64 lb, .int .i64 (t : Int)] 57) = wb at GB bB ⊢
            clear m0 m1 m2
            replace C1 := cell_gr C1 GB
            replace d0 := cell_gr d0 GB
            have M0 := bB.cell (i := 0) (v := .int .i64 1) rfl
            have M1 := bB.cell (i := 1) (v := .int .i64 lb) rfl
            have M2 := bB.cell (i := 2) (v := .int .i64 (t : Int)) rfl
            go_quiet (fail)
            have gd : Gr wb (wb.drewN nq) := (Gr.refl _).drewN _
            generalize wb.drewN nq = wd at gd ⊢
            have GD := GB.trans gd
            have bD := bB.gr gd
            have hdz := bD.lt
            have HBD := Lib.hid (show ∀ ob, Blk (wd.alloc ob) wr.heap.size 57 #[.int .i64 1, .int .i64 lb, .int .i64 (t : Int)] from fun ob => bD.gr ((Gr.refl _).alloc _))
            have HNQ := Lib.hid (show some wr.heap.size ≠ qq.ownBlock from fun e => by have := hB1 _ e.symm; omega)
            have HNS := Lib.hid (show some wr.heap.size ≠ ss.ownBlock from fun e => by have := hB2 _ e.symm; omega)
            have HQ := Lib.hid (HQ0.out.gr GD)
            have HS := Lib.hid (HS0.out.gr GD)
            have HGD := Lib.hid (HG0.out.trans GD)
            clear C1 d0 M0 M1 M2 bB GB gd GD HQ0 HS0 HG0
            have M0 := bD.cell (i := 0) (v := .int .i64 1) rfl
            have M2 := bD.cell (i := 2) (v := .int .i64 (t : Int)) rfl
            clear bD
            go_upto_region 15 with (at_builtin; refine app_int T _ _ w2.heap.size _ (seqM (l.take k)) ⟨wd.heap.size, 0, none⟩ (t : Int) (by rfl) (by rfl) (by rfl) (by rfl) (HQ.out.gr ((Gr.refl _).alloc _)) (lit_cell rfl) HIt.out (by omega) (by simp; omega) ?_; intro qv' x1 hq1 hg1 hgb1 hat1; have bX := (HBD.out _).grown hgb1 HNQ.out; have B0 := bX.cell (i := 0) (v := .int .i64 1) rfl; have B1 := bX.cell (i := 1) (v := .int .i64 lb) rfl)
            have hs1 := (HS.out.gr ((Gr.refl _).alloc _)).grown hgb1 (by
  cases hz : ss.ownBlock with
  | none => exact .inl rfl
  | some q => exact .inr (fun e => hne q e.symm hz))
            have G1 := hg1 w2 (Nat.le_refl _) (HGD.out.trans ((Gr.refl _).alloc _))
            have HS1 := Lib.hid hs1
            have HQ1 := Lib.hid hq1
            have HG1 := Lib.hid G1
            have hx1 := G1.le
            have hw1 := hgb1.size
            simp at hw1
            have HBX := Lib.hid (show ∀ ob, Blk (x1.alloc ob) wr.heap.size 57 #[.int .i64 1, .int .i64 lb, .int .i64 (t : Int)] from fun ob => bX.gr ((Gr.refl _).alloc _))
            have hqx : ∀ q, qv'.ownBlock = some q → q < x1.heap.size := fun q h => (HQ1.out.lt h).2
            have hne1 : ∀ g, qv'.ownBlock = some g → ss.ownBlock ≠ some g := fun g hg => by
              rcases hat1 with h | h
              · rw [h] at hg; exact hne g hg
              · rw [h] at hg; intro e; have := hB2 g e; have := Option.some.inj hg; simp at this; omega
            clear hs1 hq1 G1 hg1 hgb1 hat1 bX
            go_wp2_with (at_builtin; refine app_int T _ _ w2.heap.size _ (seenM (l.take k)) ⟨x1.heap.size, 0, none⟩ lb (by rfl) (by rfl) (by rfl) (by rfl) (HS1.out.gr ((Gr.refl _).alloc _)) (lit_cell rfl) HIl.out (by omega) (by simp; omega) ?_; intro sv' x2 hs2 hg2 hgb2 hat2; have bY := (HBX.out _).grown hgb2 HNS.out; have B0' := bY.cell (i := 0) (v := .int .i64 1) rfl; have B1' := bY.cell (i := 1) (v := .int .i64 lb) rfl)
            have hq2 := (HQ1.out.gr ((Gr.refl _).alloc _)).grown hgb2 (by
  cases hz : qv'.ownBlock with
  | none => exact .inl rfl
  | some q => exact .inr (fun e => hne1 q hz e.symm))
            have G2' := hg2 w2 (Nat.le_refl _) (HG1.out.trans ((Gr.refl _).alloc _))
            go_roundw
            case rel => exact ⟨k + 1, qv', sv', rfl, rfl, by rw [E3.out], by go_num, by omega, by rw [E1.out]; exact hq2, by rw [E2.out]; exact hs2, (fun g hg => by
              have h1 := hqx g hg
              rcases hat2 with h | h
              · rw [h]; exact hne1 g hg
              · rw [h]; intro e; have := Option.some.inj e; simp at this; omega), G2'⟩
            case measure => simp [intOf]; omega
          · have hk3 : kd = 3 := hk3
            subst hk3
            have E2 := Lib.hid (show seenM (l.take (k + 1)) = seenM (l.take k) by rw [htk, seenM_snoc, if_pos rfl, List.append_nil])
            by_cases hlp : 0 < lb
            · have n8 : decide ((0 : Int) < lb) = true := by simpa using hlp
              have E3 := Lib.hid (show costM (l.take (k + 1)) = costM (l.take k) + 1 by rw [htk, costM_snoc, if_pos (by unfold paysM; exact .inr ⟨rfl, hlp⟩)])
              have bz := b1.gr hgr
              have C1 := bz.cell (i := 1) (v := .slice a N.trans.length cap) rfl
              obtain ⟨tb, tf, vp, vq, rfl, d0, _, _, _, _, _⟩ := (HT2.out.gr hgr).at_ ht
              rw [hlab] at d0
              have n1 : decide ((t : Int) < 0) = false := by simp
              have n2 : decide ((N.trans.length : Int) ≤ (t : Int)) = false := by simp; omega
              have n3 : (lb != lb) = false := by simp
              have n4 : ¬ (t : Int) < 0 := by omega
              have n5 : ¬ (N.trans.length : Int) ≤ (t : Int) := by omega
              have n6 : (t : Int) < (N.trans.length : Int) := by omega
              have n7 : (0 : Int) ≤ (t : Int) := by omega
              have GB : Gr wr (wr.alloc (.cells #[.int .i64 3, .int .i64 lb, .int .i64 (t : Int)] 57)) := (Gr.refl _).alloc _
              have bB : Blk (wr.alloc (.cells #[.int .i64 3, .int .i64 lb, .int .i64 (t : Int)] 57)) wr.heap.size 57 #[.int .i64 3, .int .i64 lb, .int .i64 (t : Int)] := Blk.new rfl
              have HIt := Lib.hid (show I64 (t : Int) from hmI.2.2)
              have HIl := Lib.hid (show I64 lb from hmI.2.1)
              have HQ0 := Lib.hid hq
              have HS0 := Lib.hid hs
              have HG0 := Lib.hid hgr
              clear htk HO hs hq hgr hmI bz hlab
              go_wp2_with fail
              generalize wr.alloc (.cells #[.int .i64 3, .int .i64 lb, .int .i64 (t : Int)] 57) = wb at GB bB ⊢
              clear m0 m1 m2
              replace C1 := cell_gr C1 GB
              replace d0 := cell_gr d0 GB
              have M0 := bB.cell (i := 0) (v := .int .i64 3) rfl
              have M1 := bB.cell (i := 1) (v := .int .i64 lb) rfl
              have M2 := bB.cell (i := 2) (v := .int .i64 (t : Int)) rfl
              go_quiet (fail)
              have gd : Gr wb (wb.drewN nq) := (Gr.refl _).drewN _
              generalize wb.drewN nq = wd at gd ⊢
              have GD := GB.trans gd
              have bD := bB.gr gd
              have hdz := bD.lt
              have HBD := Lib.hid (show ∀ ob, Blk (wd.alloc ob) wr.heap.size 57 #[.int .i64 3, .int .i64 lb, .int .i64 (t : Int)] from fun ob => bD.gr ((Gr.refl _).alloc _))
              have HNQ := Lib.hid (show some wr.heap.size ≠ qq.ownBlock from fun e => by have := hB1 _ e.symm; omega)
              have HNS := Lib.hid (show some wr.heap.size ≠ ss.ownBlock from fun e => by have := hB2 _ e.symm; omega)
              have HQ := Lib.hid (HQ0.out.gr GD)
              have HS := Lib.hid (HS0.out.gr GD)
              have HGD := Lib.hid (HG0.out.trans GD)
              clear C1 d0 M0 M1 M2 bB GB gd GD HQ0 HS0 HG0
              have M0 := bD.cell (i := 0) (v := .int .i64 3) rfl
              have M2 := bD.cell (i := 2) (v := .int .i64 (t : Int)) rfl
              clear bD
              go_upto_region 15 with (at_builtin; refine app_int T _ _ w2.heap.size _ (seqM (l.take k)) ⟨wd.heap.size, 0, none⟩ (t : Int) (by rfl) (by rfl) (by rfl) (by rfl) (HQ.out.gr ((Gr.refl _).alloc _)) (lit_cell rfl) HIt.out (by omega) (by simp; omega) ?_; intro qv' x1 hq1 hg1 hgb1 hat1; have bX := (HBD.out _).grown hgb1 HNQ.out; have B0 := bX.cell (i := 0) (v := .int .i64 3) rfl; have B1 := bX.cell (i := 1) (v := .int .i64 lb) rfl)
              have hs1 := (HS.out.gr ((Gr.refl _).alloc _)).grown hgb1 (by
  cases hz : ss.ownBlock with
  | none => exact .inl rfl
  | some q => exact .inr (fun e => hne q e.symm hz))
              have G1 := hg1 w2 (Nat.le_refl _) (HGD.out.trans ((Gr.refl _).alloc _))
              go_wp2_with fail
              go_roundw
              case rel => exact ⟨k + 1, qv', ss, rfl, rfl, by rw [E3.out]; rfl, by go_num, by omega, by rw [E1.out]; exact hq1, by rw [E2.out]; exact hs1, (fun g hg => by
                rcases hat1 with h | h
                · rw [h] at hg; exact hne g hg
                · rw [h] at hg; intro e; have := hB2 g e; have := Option.some.inj hg; simp at this; omega), G1⟩
              case measure => simp [intOf]; omega
            · have n8 : decide ((0 : Int) < lb) = false := by simpa using hlp
              have E3 := Lib.hid (show costM (l.take (k + 1)) = costM (l.take k) by rw [htk, costM_snoc, if_neg (by unfold paysM; simp; omega)]; rfl)
              have bz := b1.gr hgr
              have C1 := bz.cell (i := 1) (v := .slice a N.trans.length cap) rfl
              obtain ⟨tb, tf, vp, vq, rfl, d0, _, _, _, _, _⟩ := (HT2.out.gr hgr).at_ ht
              rw [hlab] at d0
              have n1 : decide ((t : Int) < 0) = false := by simp
              have n2 : decide ((N.trans.length : Int) ≤ (t : Int)) = false := by simp; omega
              have n3 : (lb != lb) = false := by simp
              have n4 : ¬ (t : Int) < 0 := by omega
              have n5 : ¬ (N.trans.length : Int) ≤ (t : Int) := by omega
              have n6 : (t : Int) < (N.trans.length : Int) := by omega
              have n7 : (0 : Int) ≤ (t : Int) := by omega
              have GB : Gr wr (wr.alloc (.cells #[.int .i64 3, .int .i64 lb, .int .i64 (t : Int)] 57)) := (Gr.refl _).alloc _
              have bB : Blk (wr.alloc (.cells #[.int .i64 3, .int .i64 lb, .int .i64 (t : Int)] 57)) wr.heap.size 57 #[.int .i64 3, .int .i64 lb, .int .i64 (t : Int)] := Blk.new rfl
              have HIt := Lib.hid (show I64 (t : Int) from hmI.2.2)
              have HIl := Lib.hid (show I64 lb from hmI.2.1)
              have HQ0 := Lib.hid hq
              have HS0 := Lib.hid hs
              have HG0 := Lib.hid hgr
              clear htk HO hs hq hgr hmI bz hlab
              go_wp2_with fail
              generalize wr.alloc (.cells #[.int .i64 3, .int .i64 lb, .int .i64 (t : Int)] 57) = wb at GB bB ⊢
              clear m0 m1 m2
              replace C1 := cell_gr C1 GB
              replace d0 := cell_gr d0 GB
              have M0 := bB.cell (i := 0) (v := .int .i64 3) rfl
              have M1 := bB.cell (i := 1) (v := .int .i64 lb) rfl
              have M2 := bB.cell (i := 2) (v := .int .i64 (t : Int)) rfl
              go_quiet (fail)
              have gd : Gr wb (wb.drewN nq) := (Gr.refl _).drewN _
              generalize wb.drewN nq = wd at gd ⊢
              have GD := GB.trans gd
              have bD := bB.gr gd
              have hdz := bD.lt
              have HBD := Lib.hid (show ∀ ob, Blk (wd.alloc ob) wr.heap.size 57 #[.int .i64 3, .int .i64 lb, .int .i64 (t : Int)] from fun ob => bD.gr ((Gr.refl _).alloc _))
              have HNQ := Lib.hid (show some wr.heap.size ≠ qq.ownBlock from fun e => by have := hB1 _ e.symm; omega)
              have HNS := Lib.hid (show some wr.heap.size ≠ ss.ownBlock from fun e => by have := hB2 _ e.symm; omega)
              have HQ := Lib.hid (HQ0.out.gr GD)
              have HS := Lib.hid (HS0.out.gr GD)
              have HGD := Lib.hid (HG0.out.trans GD)
              clear C1 d0 M0 M1 M2 bB GB gd GD HQ0 HS0 HG0
              have M0 := bD.cell (i := 0) (v := .int .i64 3) rfl
              have M2 := bD.cell (i := 2) (v := .int .i64 (t : Int)) rfl
              clear bD
              go_upto_region 15 with (at_builtin; refine app_int T _ _ w2.heap.size _ (seqM (l.take k)) ⟨wd.heap.size, 0, none⟩ (t : Int) (by rfl) (by rfl) (by rfl) (by rfl) (HQ.out.gr ((Gr.refl _).alloc _)) (lit_cell rfl) HIt.out (by omega) (by simp; omega) ?_; intro qv' x1 hq1 hg1 hgb1 hat1; have bX := (HBD.out _).grown hgb1 HNQ.out; have B0 := bX.cell (i := 0) (v := .int .i64 3) rfl; have B1 := bX.cell (i := 1) (v := .int .i64 lb) rfl)
              have hs1 := (HS.out.gr ((Gr.refl _).alloc _)).grown hgb1 (by
  cases hz : ss.ownBlock with
  | none => exact .inl rfl
  | some q => exact .inr (fun e => hne q e.symm hz))
              have G1 := hg1 w2 (Nat.le_refl _) (HGD.out.trans ((Gr.refl _).alloc _))
              go_wp2_with fail
              go_roundw
              case rel => exact ⟨k + 1, qv', ss, rfl, rfl, by rw [E3.out], by go_num, by omega, by rw [E1.out]; exact hq1, by rw [E2.out]; exact hs1, (fun g hg => by
                rcases hat1 with h | h
                · rw [h] at hg; exact hne g hg
                · rw [h] at hg; intro e; have := hB2 g e; have := Option.some.inj hg; simp at this; omega), G1⟩
              case measure => simp [intOf]; omega
      · obtain rfl : k = l.length := by omega
        rw [List.take_of_length_le (Nat.le_refl _)] at hq hs hcl
        rw [List.take_of_length_le (Nat.le_refl _)]
        obtain ⟨p1, p2, p3, p4⟩ := HT.out
        rw [p2] at hs
        rw [p3]
        have HR := Lib.hid p4
        have bz := b1.gr hgr
        have C0 := bz.cell (i := 0) (v := .int .i64 N.places) rfl
        have C1 := bz.cell (i := 1) (v := .slice a N.trans.length cap) rfl
        have HQ := Lib.hid hq.ints
        have HSn := Lib.hid hs.ints
        have GZ := Lib.hid (G2.trans hgr)
        have HNr := Lib.hid (HN2.out.gr hgr)
        obtain ⟨qa, qc, rfl, _, _⟩ := hq.ints.len
        obtain ⟨sa, sc, rfl, _, _⟩ := hs.ints.len
        have HUr := Lib.hid (HU2.out.gr hgr)
        have hkk : ¬ ((l.length : Int) < (l.length : Int)) := by omega
        clear hq hs hne p1 p2 p3 p4 bz HT HK hcl hql hsl hgr
        go_wp2_with fail
        refine cut10 (S := fun w' => w'.cell? ⟨w.heap.size, 0, none⟩ = some (.int .i64 N.places) ∧ w'.cell? ⟨w.heap.size, 1, none⟩ = some (.slice a N.trans.length cap)) (by kernel_rfl) (by kernel_rfl) ⟨cell_gr C0 (by (repeat (first | exact Gr.refl _ | assumption | apply Gr.alloc | apply Gr.drew | apply Gr.drewN | refine Gr.trans ?_ (by assumption)))), cell_gr C1 (by (repeat (first | exact Gr.refl _ | assumption | apply Gr.alloc | apply Gr.drew | apply Gr.drewN | refine Gr.trans ?_ (by assumption))))⟩ (fun hHeld => ?_)
        (refine hold0 (v := ?_) (by kernel_rfl) (by kernel_rfl) (by kernel_rfl) (fun _ _ _ h => h) (by rfl) (fun w' hSw => ?_) (by assumption) ?_; rotate_left 1; · ((try dsimp only at hSw); (try go_simp); (try (with_reducible rfl))); (try simp only [Act.put, List.setIfInBounds_toArray, List.set_cons_zero, List.set_cons_succ]))
        (refine hold1 (v := ?_) (by kernel_rfl) (by kernel_rfl) (by kernel_rfl) (fun _ _ _ h => h) (by rfl) (fun w' hSw => ?_) (by assumption) ?_; rotate_left 1; · ((try dsimp only at hSw); (try go_simp); (try (with_reducible rfl))); (try simp only [Act.put, List.setIfInBounds_toArray, List.set_cons_zero, List.set_cons_succ]))
        (refine hold2 (v := ?_) (by kernel_rfl) (by kernel_rfl) (by kernel_rfl) (fun _ _ _ h => h) (by rfl) (fun w' hSw => ?_) (by assumption) ?_; rotate_left 1; · ((try dsimp only at hSw); (try go_simp); (try (with_reducible rfl))); (try simp only [Act.put, List.setIfInBounds_toArray, List.set_cons_zero, List.set_cons_succ]))
        (refine hold4 (v := ?_) (by kernel_rfl) (by kernel_rfl) (by kernel_rfl) (fun _ _ _ h => h) (by rfl) (fun w' hSw => ?_) (by assumption) ?_; rotate_left 1; · ((try dsimp only at hSw); (try go_simp); (try (with_reducible rfl))); (try simp only [Act.put, List.setIfInBounds_toArray, List.set_cons_zero, List.set_cons_succ]))
        refine next3 (by kernel_rfl) (fun K hK => ?_)
        go_simp
        go_at_call 35
        refine (Start_calls _ N i _ (HNr.out.gr (by (repeat (first | exact Gr.refl _ | assumption | apply Gr.alloc | apply Gr.drew | apply Gr.drewN | refine Gr.trans ?_ (by assumption))))) hi).mono ?_
        rintro _ w3 ⟨v3, rfl, o3, g3⟩
        obtain ⟨ia, ic, rfl, _, _⟩ := o3.ints.len
        (refine hK.out _ _ ?_ (fun hHeld => ?_); · (exact ⟨cell_gr C0 (by (repeat (first | exact Gr.refl _ | assumption | apply Gr.alloc | apply Gr.drew | apply Gr.drewN | refine Gr.trans ?_ (by assumption)))), cell_gr C1 (by (repeat (first | exact Gr.refl _ | assumption | apply Gr.alloc | apply Gr.drew | apply Gr.drewN | refine Gr.trans ?_ (by assumption))))⟩))
        clear hK K
        try simp only [Act.put, List.setIfInBounds_toArray, List.set_cons_zero, List.set_cons_succ]
        refine next5 (by kernel_rfl) (fun K hK => ?_)
        go_simp
        go_at_call 18
        refine (Run_calls _ _ _ N (oneN (startLen N) i) (seqM l) _ (HNr.out.gr (by (repeat (first | exact Gr.refl _ | assumption | apply Gr.alloc | apply Gr.drew | apply Gr.drewN | refine Gr.trans ?_ (by assumption))))) (o3.ints.gr (by (repeat (first | exact Gr.refl _ | assumption | apply Gr.alloc | apply Gr.drew | apply Gr.drewN | refine Gr.trans ?_ (by assumption))))) (HQ.out.gr (by (repeat (first | exact Gr.refl _ | assumption | apply Gr.alloc | apply Gr.drew | apply Gr.drewN | refine Gr.trans ?_ (by assumption)))))).mono ?_
        rw [HR.out]; rintro _ w4 ⟨v4, rfl, i4, g4⟩
        obtain ⟨ya, yc, rfl, _, _⟩ := i4.len
        (refine hK.out _ _ ?_ (fun hHeld => ?_); · (exact ⟨cell_gr C0 (by (repeat (first | exact Gr.refl _ | assumption | apply Gr.alloc | apply Gr.drew | apply Gr.drewN | refine Gr.trans ?_ (by assumption)))), cell_gr C1 (by (repeat (first | exact Gr.refl _ | assumption | apply Gr.alloc | apply Gr.drew | apply Gr.drewN | refine Gr.trans ?_ (by assumption))))⟩))
        clear hK K
        try simp only [Act.put, List.setIfInBounds_toArray, List.set_cons_zero, List.set_cons_succ]
        have GF : Gr wr w4 := by (repeat (first | exact Gr.refl _ | assumption | apply Gr.alloc | apply Gr.drew | apply Gr.drewN | refine Gr.trans ?_ (by assumption)))
        replace C0 := cell_gr C0 GF
        replace C1 := cell_gr C1 GF
        clear o3 g3 g4
        (refine hold6 (v := ?_) (by kernel_rfl) (by kernel_rfl) (by kernel_rfl) (fun _ _ _ h => h) (by rfl) (fun w' hSw => ?_) (by assumption) ?_; rotate_left 1; · ((try dsimp only at hSw); (try go_simp); (try (with_reducible rfl))); (try simp only [Act.put, List.setIfInBounds_toArray, List.set_cons_zero, List.set_cons_succ]))
        (refine hold7 (v := ?_) (by kernel_rfl) (by kernel_rfl) (by kernel_rfl) (fun _ _ _ h => h) (by rfl) (fun w' hSw => ?_) (by assumption) ?_; rotate_left 1; · ((try dsimp only at hSw); (try go_simp); (try (with_reducible rfl))); (try simp only [Act.put, List.setIfInBounds_toArray, List.set_cons_zero, List.set_cons_succ]))
        (refine hold8 (v := ?_) (by kernel_rfl) (by kernel_rfl) (by kernel_rfl) (fun _ _ _ h => h) (by rfl) (fun w' hSw => ?_) (by assumption) ?_; rotate_left 1; · ((try dsimp only at hSw); (try go_simp); (try (with_reducible rfl))); (try simp only [Act.put, List.setIfInBounds_toArray, List.set_cons_zero, List.set_cons_succ]))
        (refine hold9 (v := ?_) (by kernel_rfl) (by kernel_rfl) (by kernel_rfl) (fun _ _ _ h => h) (by rfl) (fun w' hSw => ?_) (by assumption) ?_; rotate_left 1; · ((try dsimp only at hSw); (try go_simp); (try (with_reducible rfl))); (try simp only [Act.put, List.setIfInBounds_toArray, List.set_cons_zero, List.set_cons_succ]))
        refine ends10 (by kernel_rfl) (fun K hK => ?_)
        go_simp
        refine hK.out _ _ ?_
        go_wp2_with fail
        refine (Start_calls _ N o _ (HNr.out.gr GF) ho).mono ?_
        rintro _ w5 ⟨v5, rfl, o5, g5⟩
        obtain ⟨oa, oc, rfl, _, _⟩ := o5.ints.len
        have E1 := Lib.hid (eqB_yes (rfl : oneN (startLen N) o = oneN (startLen N) o))
        have E2 := Lib.hid (eqB_yes (rfl : tr = tr))
        have i5 := i4.gr g5
        have G5 := GF.trans g5
        go_wp2_with fail
        refine (Equal_calls _ _ (oneN (startLen N) o) (oneN (startLen N) o) _ i5 o5.ints).mono ?_
        rw [E1.out]; rintro _ w6 ⟨rfl, g6⟩
        go_wp2_with fail
        refine (Equal_calls _ _ tr tr _ (HSn.out.gr (G5.trans g6)) (HUr.out.gr (G5.trans g6))).mono ?_
        rw [E2.out]; rintro _ w7 ⟨rfl, g7⟩
        go_wp2_with fail
        go_ret
        exact ⟨rfl, GZ.out.trans ((G5.trans g6).trans g7)⟩
end Go.Proofs.Ytkekamffmmokmaa
