/- Contract of cases.Busy. -/
import Derived.Test.YtidpppfimkhgkaaBusy1
import Derived.Test.YtidpppfimkhgkaaGN
namespace Go.Proofs.Ytidpppfimkhgkaa
open Go.RowKit Go.Tok
set_option linter.unusedVariables false

set_option maxHeartbeats 4000000 in
set_option maxRecDepth 100000 in
theorem Busy_calls (v : Value) (N : NetD) (w : World) (hN : NetR w v N) : Calls Try.prog 103 #[v] w (RetBN w (busyNF N)) := by
  have T := tranTy
  have i0 : I64 (0 : Int) := by decide
  have hN' := hN
  obtain ⟨a, cap, rfl, hnl, hncap, hpl, hT⟩ := hN.open_
  have hpl1 := hpl.1
  have hpl2 := hpl.2
  cases h0 : netOkB N
  · have e0 := wrongC_no h0
    have HC := Lib.hid (busyNF_wrong h0)
    clear h0
    have b0 : Blk ((w.alloc (.cells #[.int .i64 N.places, .slice a N.trans.length cap] 28)).alloc (.cells #[.int .i64 0, .slice none 0 0] 28)) w.heap.size 28 #[.int .i64 N.places, .slice a N.trans.length cap] := (Blk.new rfl).gr ((Gr.refl _).alloc _)
    have b3 : Blk ((w.alloc (.cells #[.int .i64 N.places, .slice a N.trans.length cap] 28)).alloc (.cells #[.int .i64 0, .slice none 0 0] 28)) (w.heap.size + 1) 28 #[.int .i64 0, .slice none 0 0] := Blk.new (by simp)
    go_enter Try.func103, Try.ntmps103
    go_wp2_with fail
    refine (Wrong_calls _ N _ (hN.gr (by (repeat (first | exact Gr.refl _ | assumption | apply Gr.alloc | apply Gr.drew | apply Gr.drewN | refine Gr.trans ?_ (by assumption)))))).mono ?_
    rw [e0]; rintro _ w1 ⟨rfl, g1⟩
    replace b0 := b0.gr g1
    replace b3 := b3.gr g1
    have gw : Gr w w1 := by (repeat (first | exact Gr.refl _ | assumption | apply Gr.alloc | apply Gr.drew | apply Gr.drewN | refine Gr.trans ?_ (by assumption)))
    clear g1
    have hw0 := Lib.hid b3.lt
    have D0 := b3.cell (i := 0) rfl
    have D1 := b3.cell (i := 1) rfl
    have F0 := b3.frozen 0
    have hb2 := b3.set 0 (.int .i64 0)
    have F1 := hb2.frozen 1
    have D2 := hb2.cell (i := 1) rfl
    have hb3 := hb2.set 1 (.slice none 0 0)
    have E0 := hb3.cell (i := 0) rfl
    have E1 := hb3.cell (i := 1) rfl
    go_wp2_with fail
    refine bodyPost_ret (v := .tuple #[.agg #[.int .i64 0, .slice none 0 0], .int .i64 (2)]) (by simp [results, Try.results103, go_sem, E0, E1]) rfl ?_
    exact RetBN.mk HC.out (zeroNetB _) (((gw.trans (Gr.refl _)).setCell (by simp) _).setCell (by simp) _)
  · have e0 := wrongC_yes h0
    have hPN : N.places = (N.places.toNat : Int) := by have := netOk_places h0; omega
    have h16 : N.places.toNat ≤ 16 := by have := netOk_places h0; omega
    have h24 := netOk_len h0
    have hP0 := (netOk_places h0).1
    have hP16 := (netOk_places h0).2
    have hlab := fun k hk => (netOk_lab h0 (k := k) hk)
    have HFU := Lib.hid (fun h => busyNF_full h0 h)
    have HOK := Lib.hid (fun h h' => busyNF_ok h0 h h')
    have HLAB := Lib.hid hlab
    have HK := Lib.hid h0
    obtain ⟨n0, hn0⟩ : ∃ n, n = N.places.toNat := ⟨_, rfl⟩
    rw [← hn0] at hPN h16
    have HN0 := Lib.hid hn0
    have HPN := Lib.hid hPN
    clear h0 hlab hn0 hPN
    have b0 : Blk ((w.alloc (.cells #[.int .i64 N.places, .slice a N.trans.length cap] 28)).alloc (.cells #[.int .i64 0, .slice none 0 0] 28)) w.heap.size 28 #[.int .i64 N.places, .slice a N.trans.length cap] := (Blk.new rfl).gr ((Gr.refl _).alloc _)
    have b3 : Blk ((w.alloc (.cells #[.int .i64 N.places, .slice a N.trans.length cap] 28)).alloc (.cells #[.int .i64 0, .slice none 0 0] 28)) (w.heap.size + 1) 28 #[.int .i64 0, .slice none 0 0] := Blk.new (by simp)
    go_enter Try.func103, Try.ntmps103
    go_wp2_with fail
    refine (Wrong_calls _ N _ (hN.gr (by (repeat (first | exact Gr.refl _ | assumption | apply Gr.alloc | apply Gr.drew | apply Gr.drewN | refine Gr.trans ?_ (by assumption)))))).mono ?_
    rw [e0]; rintro _ w1 ⟨rfl, g1⟩
    replace b0 := b0.gr g1
    replace b3 := b3.gr g1
    have gw : Gr w w1 := by (repeat (first | exact Gr.refl _ | assumption | apply Gr.alloc | apply Gr.drew | apply Gr.drewN | refine Gr.trans ?_ (by assumption)))
    clear g1
    have hw0 := Lib.hid b3.lt
    have A0 := b0.cell (i := 0) rfl
    have A1 := b0.cell (i := 1) rfl
    have A2 := (b0.gr ((Gr.refl w1).alloc (.cells #[.int .i64 N.places] 3))).cell (i := 1) rfl
    have PX : Blk (w1.alloc (.cells #[.int .i64 N.places] 3)) w1.heap.size 3 #[.int .i64 N.places] := Blk.new rfl
    go_wp2_with fail
    go_loopw [25] (fun q wr => ∃ k : Nat, k ≤ N.trans.length ∧ q = .int .i64 k ∧ Blk wr w1.heap.size 3 #[.int .i64 ((n0 + visTo N.trans k : Nat) : Int)] ∧ Gr w1 wr) (fun q _ => N.trans.length - (intOf q).toNat)
    case atStart => exact ⟨0, Nat.zero_le _, rfl, by rw [visTo_zero, Nat.add_zero, ← HPN.out]; exact PX, (Gr.refl _).alloc _⟩
    case round =>
      rename_i wr
      obtain ⟨k, hk, rfl, hpx, hgr⟩ := hrel
      have hvle := visTo_le N.trans k
      by_cases hlt : k < N.trans.length
      · obtain ⟨tb, to, vp, vq, rfl, c0, c1, c2, hlI, hp, hq⟩ := (hT.gr (gw.trans hgr)).at_ hlt
        obtain ⟨pa, pc, rfl, _, _⟩ := hp.len
        obtain ⟨qa, qc, rfl, _, _⟩ := hq.len
        have GT : Gr wr (wr.alloc (.cells #[.int .i64 (N.tr k).label, .slice pa (N.tr k).pre.length pc, .slice qa (N.tr k).post.length qc] 34)) := (Gr.refl _).alloc _
        have T0 : (wr.alloc (.cells #[.int .i64 (N.tr k).label, .slice pa (N.tr k).pre.length pc, .slice qa (N.tr k).post.length qc] 34)).cell? ⟨wr.heap.size, 0, none⟩ = some (.int .i64 (N.tr k).label) := box_cell (Gr.refl _) (i := 0) rfl
        have P0 := (hpx.gr GT).cell (i := 0) rfl
        have PF := (hpx.gr GT).frozen 0
        have hpx2 := (hpx.gr GT).set 0 (.int .i64 (((n0 + visTo N.trans k : Nat) : Int) + 1))
        by_cases hv : 0 < (N.tr k).label
        · have hvy := visTo_yes hlt hv
          have HV := Lib.hid hvy
          clear hvy
          go_wp2_with fail
          go_roundw
          case rel => exact ⟨k + 1, by omega, by go_num, by rw [HV.out]; simpa [Nat.add_assoc, Int.add_assoc] using hpx2, (hgr.trans GT).setCell (Nat.le_refl _) _⟩
          case measure => simp [intOf]; omega
        · have hvn := visTo_no hlt hv
          have HV := Lib.hid hvn
          clear hvn
          go_wp2_with fail
          go_roundw
          case rel => exact ⟨k + 1, by omega, by go_num, by rw [HV.out]; exact hpx.gr GT, hgr.trans GT⟩
          case measure => simp [intOf]; omega
      · obtain rfl : k = N.trans.length := by omega
        have P0 := hpx.cell (i := 0) rfl
        have C0 := (b0.gr hgr).cell (i := 0) rfl
        have C1 := (b0.gr hgr).cell (i := 1) rfl
        replace b3 := b3.gr hgr
        obtain ⟨n, hn⟩ : ∃ n, n = n0 + visTo N.trans N.trans.length := ⟨_, rfl⟩
        rw [← hn] at P0
        have hBP : busyP N = n := by unfold busyP; rw [← HN0.out, hn]
        have hvle2 := visTo_le N.trans N.trans.length
        by_cases hf1 : 16 < n
        · have HC := Lib.hid (HFU.out (.inl (by rw [hBP]; exact hf1)))
          clear hn hBP
          have D0 := b3.cell (i := 0) rfl
          have D1 := b3.cell (i := 1) rfl
          have F0 := b3.frozen 0
          have hb2 := b3.set 0 (.int .i64 0)
          have F1 := hb2.frozen 1
          have D2 := hb2.cell (i := 1) rfl
          have hb3 := hb2.set 1 (.slice none 0 0)
          have E0 := hb3.cell (i := 0) rfl
          have E1 := hb3.cell (i := 1) rfl
          go_wp2_with fail
          refine bodyPost_ret (v := .tuple #[.agg #[.int .i64 0, .slice none 0 0], .int .i64 (4)]) (by simp [results, Try.results103, go_sem, E0, E1]) rfl ?_
          exact RetBN.mk HC.out (zeroNetB _) (((gw.trans (hgr)).setCell (by simp) _).setCell (by simp) _)
        · by_cases hf2 : 24 < N.trans.length + visTo N.trans N.trans.length
          · have HC := Lib.hid (HFU.out (.inr hf2))
            have hf3 : (24 : Int) < (N.trans.length : Int) + (n : Int) - N.places := by rw [HPN.out]; omega
            clear hn hBP hf2
            have D0 := b3.cell (i := 0) rfl
            have D1 := b3.cell (i := 1) rfl
            have F0 := b3.frozen 0
            have hb2 := b3.set 0 (.int .i64 0)
            have F1 := hb2.frozen 1
            have D2 := hb2.cell (i := 1) rfl
            have hb3 := hb2.set 1 (.slice none 0 0)
            have E0 := hb3.cell (i := 0) rfl
            have E1 := hb3.cell (i := 1) rfl
            go_wp2_with fail
            refine bodyPost_ret (v := .tuple #[.agg #[.int .i64 0, .slice none 0 0], .int .i64 (4)]) (by simp [results, Try.results103, go_sem, E0, E1]) rfl ?_
            exact RetBN.mk HC.out (zeroNetB _) (((gw.trans (hgr)).setCell (by simp) _).setCell (by simp) _)
          · have HC := Lib.hid (HOK.out (by rw [hBP]; omega) (by omega))
            have hf3 : (N.trans.length : Int) + (n : Int) - N.places ≤ 24 := by rw [HPN.out]; omega
            have hn16 : n ≤ 16 := by omega
            have HNV := Lib.hid hn
            have HBP := Lib.hid hBP
            have HF2 := Lib.hid hf2
            clear hn hBP hf2
            have GO : Gr wr (wr.alloc (.cells #[.int .i64 (n : Int), .slice none 0 0] 28)) := (Gr.refl _).alloc _
            have C2 := cell_gr C0 GO
            have C3 := cell_gr C1 GO
            have bo : Blk (wr.alloc (.cells #[.int .i64 (n : Int), .slice none 0 0] 28)) wr.heap.size 28 #[.int .i64 (n : Int), .slice none 0 0] := Blk.new rfl
            have hos : wr.heap.size + 1 ≤ (wr.alloc (.cells #[.int .i64 (n : Int), .slice none 0 0] 28)).heap.size := by simp
            go_wp2_with fail
            rename World => wo
            generalize hOX : wo.heap.size = OX at bo hos ⊢
            have HOX := Lib.hid hOX
            go_loopw [11, 58] (fun nx q wr => ∃ (k : Nat) (out : Value), k ≤ N.trans.length ∧ q = .int .i64 k ∧ nx = .int .i64 ((n0 + visTo N.trans k : Nat) : Int) ∧ Blk wr OX 28 #[.int .i64 (n : Int), out] ∧ OwnT 34 (OX + 1) wr out (busyTo N n k) ∧ Gr wo wr ∧ OX + 1 ≤ wr.heap.size) (fun _ q _ => N.trans.length - (intOf q).toNat)
            case atStart => exact ⟨0, _, Nat.zero_le _, rfl, by rw [visTo_zero, Nat.add_zero, ← HPN.out], bo, by rw [busyTo_zero]; exact OwnT.nil _ _ _, GO, hos⟩
            case round =>
              obtain ⟨k, out, hk, rfl, rfl, hb0, ho, hgz, hsz⟩ := hrel
              obtain ⟨oa, oc, hout⟩ := ho.form
              have hbl := busyTo_len (fun k hk => (HLAB.out k hk).1) n k hk
              have hvk := visTo_le N.trans k
              have hob : ((busyTo N n k).length + 2) * 56 ≤ 140737488355328 := by omega
              have hob1 : ((busyTo N n k).length + 1) * 56 ≤ 140737488355328 := by omega
              obtain ⟨ol, hol⟩ : ∃ ol, ol = (busyTo N n k).length := ⟨_, rfl⟩
              rw [← hol] at hout
              subst hout
              have HL := Lib.hid hol
              clear hol hbl
              by_cases hlt : k < N.trans.length
              · obtain ⟨tb, to, vp, vq, rfl, c0, c1, c2, hlI, hp, hq⟩ := (hT.gr ((gw.trans hgr).trans hgz)).at_ hlt
                obtain ⟨pa, pc, rfl, _, _⟩ := hp.len
                obtain ⟨qa, qc, rfl, _, _⟩ := hq.len
                have hvm := visTo_mono (N := N) (k := k) (Nat.le_of_lt hlt) (Nat.le_refl _)
                have hvn : n0 + visTo N.trans k ≤ n := by have := HNV.out; omega
                have F := netOk_tr HK.out hlt
                have hpre : (N.tr k).pre.length ≤ n := by have := F.pre; have := HPN.out; omega
                have hpost : (N.tr k).post.length ≤ n := by have := F.post; have := HPN.out; omega
                have hneg : (-1 : Int) < (n : Int) := by omega
                have GT : Gr wr (wr.alloc (.cells #[.int .i64 (N.tr k).label, .slice pa (N.tr k).pre.length pc, .slice qa (N.tr k).post.length qc] 34)) := (Gr.refl _).alloc _
                have bt : Blk (wr.alloc (.cells #[.int .i64 (N.tr k).label, .slice pa (N.tr k).pre.length pc, .slice qa (N.tr k).post.length qc] 34)) wr.heap.size 34 #[.int .i64 (N.tr k).label, .slice pa (N.tr k).pre.length pc, .slice qa (N.tr k).post.length qc] := Blk.new rfl
                have B1 := (hb0.gr GT).cell (i := 1) rfl
                have T0 := bt.cell (i := 0) rfl
                have T1 := bt.cell (i := 1) rfl
                have T2 := bt.cell (i := 2) rfl
                replace P0 := cell_gr P0 hgz
                have HOL := Lib.hid ho.lt
                by_cases hl0 : (N.tr k).label = 0
                · have q1 : ((N.tr k).label == 0) = true := by simp [hl0]
                  have HV := Lib.hid (visTo_no hlt (by omega))
                  have HB2 := Lib.hid (busyTo_silent (n := n) hl0)
                  clear hl0 F
                  go_wp2_with fail
                  refine cut14 (S := fun w' => w'.cell? ⟨OX, 1, none⟩ = some (.slice oa ol oc) ∧ w'.cell? ⟨wr.heap.size, 0, none⟩ = some (.int .i64 (N.tr k).label) ∧ w'.cell? ⟨wr.heap.size, 1, none⟩ = some (.slice pa (N.tr k).pre.length pc) ∧ w'.cell? ⟨wr.heap.size, 2, none⟩ = some (.slice qa (N.tr k).post.length qc)) (by kernel_rfl) (by kernel_rfl) ⟨cell_gr B1 (by (repeat (first | exact Gr.refl _ | assumption | apply Gr.alloc | apply Gr.drew | apply Gr.drewN | refine Gr.trans ?_ (by assumption)))), cell_gr T0 (by (repeat (first | exact Gr.refl _ | assumption | apply Gr.alloc | apply Gr.drew | apply Gr.drewN | refine Gr.trans ?_ (by assumption)))), cell_gr T1 (by (repeat (first | exact Gr.refl _ | assumption | apply Gr.alloc | apply Gr.drew | apply Gr.drewN | refine Gr.trans ?_ (by assumption)))), cell_gr T2 (by (repeat (first | exact Gr.refl _ | assumption | apply Gr.alloc | apply Gr.drew | apply Gr.drewN | refine Gr.trans ?_ (by assumption))))⟩ (fun hHeld => ?_)
                  (refine hold0 (v := ?_) (by kernel_rfl) (by kernel_rfl) (by kernel_rfl) (fun _ _ _ h => h) (by rfl) (fun w' hSw => ?_) (by assumption) ?_; rotate_left 1; · ((try dsimp only at hSw); (try go_simp); (try (with_reducible rfl))); (try simp only [Act.put, List.setIfInBounds_toArray, List.set_cons_zero, List.set_cons_succ]))
                  (refine hold1 (v := ?_) (by kernel_rfl) (by kernel_rfl) (by kernel_rfl) (fun _ _ _ h => h) (by rfl) (fun w' hSw => ?_) (by assumption) ?_; rotate_left 1; · ((try dsimp only at hSw); (try go_simp); (try (with_reducible rfl))); (try simp only [Act.put, List.setIfInBounds_toArray, List.set_cons_zero, List.set_cons_succ]))
                  (refine hold2 (v := ?_) (by kernel_rfl) (by kernel_rfl) (by kernel_rfl) (fun _ _ _ h => h) (by rfl) (fun w' hSw => ?_) (by assumption) ?_; rotate_left 1; · ((try dsimp only at hSw); (try go_simp); (try (with_reducible rfl))); (try simp only [Act.put, List.setIfInBounds_toArray, List.set_cons_zero, List.set_cons_succ]))
                  (refine hold3 (v := ?_) (by kernel_rfl) (by kernel_rfl) (by kernel_rfl) (fun _ _ _ h => h) (by rfl) (fun w' hSw => ?_) (by assumption) ?_; rotate_left 1; · ((try dsimp only at hSw); (try go_simp); (try (with_reducible rfl))); (try simp only [Act.put, List.setIfInBounds_toArray, List.set_cons_zero, List.set_cons_succ]))
                  (refine hold4 (v := ?_) (by kernel_rfl) (by kernel_rfl) (by kernel_rfl) (fun _ _ _ h => h) (by rfl) (fun w' hSw => ?_) (by assumption) ?_; rotate_left 1; · ((try dsimp only at hSw); (try go_simp); (try (with_reducible rfl))); (try simp only [Act.put, List.setIfInBounds_toArray, List.set_cons_zero, List.set_cons_succ]))
                  (refine hold6 (v := ?_) (by kernel_rfl) (by kernel_rfl) (by kernel_rfl) (fun _ _ _ h => h) (by rfl) (fun w' hSw => ?_) (by assumption) ?_; rotate_left 1; · ((try dsimp only at hSw); (try go_simp); (try (with_reducible rfl))); (try simp only [Act.put, List.setIfInBounds_toArray, List.set_cons_zero, List.set_cons_succ]))
                  (refine hold7 (v := ?_) (by kernel_rfl) (by kernel_rfl) (by kernel_rfl) (fun _ _ _ h => h) (by rfl) (fun w' hSw => ?_) (by assumption) ?_; rotate_left 1; · ((try dsimp only at hSw); (try go_simp); (try (with_reducible rfl))); (try simp only [Act.put, List.setIfInBounds_toArray, List.set_cons_zero, List.set_cons_succ]))
                  (refine hold8 (v := ?_) (by kernel_rfl) (by kernel_rfl) (by kernel_rfl) (fun _ _ _ h => h) (by rfl) (fun w' hSw => ?_) (by assumption) ?_; rotate_left 1; · ((try dsimp only at hSw); (try go_simp); (try (with_reducible rfl))); (try simp only [Act.put, List.setIfInBounds_toArray, List.set_cons_zero, List.set_cons_succ]))
                  refine next5 (by kernel_rfl) (fun K hK => ?_)
                  go_simp
                  go_at_call 138
                  refine (Wide_calls _ (N.tr k).pre n w1.heap.size (-1) _ (hp.gr (by (repeat (first | exact Gr.refl _ | assumption | apply Gr.alloc | apply Gr.drew | apply Gr.drewN | refine Gr.trans ?_ (by assumption))))) (cell_gr P0 (by (repeat (first | exact Gr.refl _ | assumption | apply Gr.alloc | apply Gr.drew | apply Gr.drewN | refine Gr.trans ?_ (by assumption))))) hn16 hpre (by decide) hneg).mono ?_
                  rintro _ x1 ⟨v1, rfl, o1, g1⟩
                  obtain ⟨a1, e1, rfl, _, _⟩ := o1.ints.len
                  have h1 := Held.fresh (base := OX + 1) (row := (Value.slice oa ol oc).ownBlock) o1 (Nat.le_trans hsz (Gr.le (show Gr wr _ from by (repeat (first | exact Gr.refl _ | assumption | apply Gr.alloc | apply Gr.drew | apply Gr.drewN | refine Gr.trans ?_ (by assumption)))))) (fun k' h => Nat.lt_of_lt_of_le (HOL.out k' h).2 (Gr.le (show Gr wr _ from by (repeat (first | exact Gr.refl _ | assumption | apply Gr.alloc | apply Gr.drew | apply Gr.drewN | refine Gr.trans ?_ (by assumption)))))) (Gr.refl _)
                  (refine hK.out _ _ ?_ (fun hHeld => ?_); · (exact ⟨cell_gr B1 (by (repeat (first | exact Gr.refl _ | assumption | apply Gr.alloc | apply Gr.drew | apply Gr.drewN | refine Gr.trans ?_ (by assumption)))), cell_gr T0 (by (repeat (first | exact Gr.refl _ | assumption | apply Gr.alloc | apply Gr.drew | apply Gr.drewN | refine Gr.trans ?_ (by assumption)))), cell_gr T1 (by (repeat (first | exact Gr.refl _ | assumption | apply Gr.alloc | apply Gr.drew | apply Gr.drewN | refine Gr.trans ?_ (by assumption)))), cell_gr T2 (by (repeat (first | exact Gr.refl _ | assumption | apply Gr.alloc | apply Gr.drew | apply Gr.drewN | refine Gr.trans ?_ (by assumption))))⟩))
                  clear hK K
                  try simp only [Act.put, List.setIfInBounds_toArray, List.set_cons_zero, List.set_cons_succ]
                  refine next9 (by kernel_rfl) (fun K hK => ?_)
                  go_simp
                  go_at_call 138
                  refine (Wide_calls _ (N.tr k).post n w1.heap.size (-1) _ (hq.gr (by (repeat (first | exact Gr.refl _ | assumption | apply Gr.alloc | apply Gr.drew | apply Gr.drewN | refine Gr.trans ?_ (by assumption))))) (cell_gr P0 (by (repeat (first | exact Gr.refl _ | assumption | apply Gr.alloc | apply Gr.drew | apply Gr.drewN | refine Gr.trans ?_ (by assumption))))) hn16 hpost (by decide) hneg).mono ?_
                  rintro _ x2 ⟨v2, rfl, o2, g2⟩
                  obtain ⟨a2, e2, rfl, _, _⟩ := o2.ints.len
                  have h2 := Held.fresh (base := OX + 1) (row := (Value.slice oa ol oc).ownBlock) o2 (Nat.le_trans hsz (Gr.le (show Gr wr _ from by (repeat (first | exact Gr.refl _ | assumption | apply Gr.alloc | apply Gr.drew | apply Gr.drewN | refine Gr.trans ?_ (by assumption)))))) (fun k' h => Nat.lt_of_lt_of_le (HOL.out k' h).2 (Gr.le (show Gr wr _ from by (repeat (first | exact Gr.refl _ | assumption | apply Gr.alloc | apply Gr.drew | apply Gr.drewN | refine Gr.trans ?_ (by assumption)))))) (Gr.refl _)
                  (refine hK.out _ _ ?_ (fun hHeld => ?_); · (exact ⟨cell_gr B1 (by (repeat (first | exact Gr.refl _ | assumption | apply Gr.alloc | apply Gr.drew | apply Gr.drewN | refine Gr.trans ?_ (by assumption)))), cell_gr T0 (by (repeat (first | exact Gr.refl _ | assumption | apply Gr.alloc | apply Gr.drew | apply Gr.drewN | refine Gr.trans ?_ (by assumption)))), cell_gr T1 (by (repeat (first | exact Gr.refl _ | assumption | apply Gr.alloc | apply Gr.drew | apply Gr.drewN | refine Gr.trans ?_ (by assumption)))), cell_gr T2 (by (repeat (first | exact Gr.refl _ | assumption | apply Gr.alloc | apply Gr.drew | apply Gr.drewN | refine Gr.trans ?_ (by assumption))))⟩))
                  clear hK K
                  try simp only [Act.put, List.setIfInBounds_toArray, List.set_cons_zero, List.set_cons_succ]
                  (refine hold10 (v := ?_) (by kernel_rfl) (by kernel_rfl) (by kernel_rfl) (fun _ _ _ h => h) (by rfl) (fun w' hSw => ?_) (by assumption) ?_; rotate_left 1; · ((try dsimp only at hSw); (try go_simp); (try (with_reducible rfl))); (try simp only [Act.put, List.setIfInBounds_toArray, List.set_cons_zero, List.set_cons_succ]))
                  refine next11 (by kernel_rfl) (fun K hK => ?_)
                  go_simp
                  (refine hK.out _ _ ?_ (fun hHeld => ?_); · (exact ⟨cell_gr B1 (by (repeat (first | exact Gr.refl _ | assumption | apply Gr.alloc | apply Gr.drew | apply Gr.drewN | refine Gr.trans ?_ (by assumption)))), cell_gr T0 (by (repeat (first | exact Gr.refl _ | assumption | apply Gr.alloc | apply Gr.drew | apply Gr.drewN | refine Gr.trans ?_ (by assumption)))), cell_gr T1 (by (repeat (first | exact Gr.refl _ | assumption | apply Gr.alloc | apply Gr.drew | apply Gr.drewN | refine Gr.trans ?_ (by assumption)))), cell_gr T2 (by (repeat (first | exact Gr.refl _ | assumption | apply Gr.alloc | apply Gr.drew | apply Gr.drewN | refine Gr.trans ?_ (by assumption))))⟩))
                  clear hK K
                  try simp only [Act.put, List.setIfInBounds_toArray, List.set_cons_zero, List.set_cons_succ]
                  refine next12 (by kernel_rfl) (fun K hK => ?_)
                  refine step_app_tran T (by rfl) _ _ (by rfl) (OX + 1) (.slice oa ol oc) (busyTo N n k) ⟨0, wideL n (N.tr k).pre (-1), wideL n (N.tr k).post (-1)⟩ (.slice a1 (wideL n (N.tr k).pre (-1)).length e1) (.slice a2 (wideL n (N.tr k).post (-1)).length e2) ⟨x2.heap.size, 0, none⟩ (by rfl) (by rfl) (ho.gr (by (repeat (first | exact Gr.refl _ | assumption | apply Gr.alloc | apply Gr.drew | apply Gr.drewN | refine Gr.trans ?_ (by assumption))))) i0 (h1.gr (by (repeat (first | exact Gr.refl _ | assumption | apply Gr.alloc | apply Gr.drew | apply Gr.drewN | refine Gr.trans ?_ (by assumption))))) (h2.gr (by (repeat (first | exact Gr.refl _ | assumption | apply Gr.alloc | apply Gr.drew | apply Gr.drewN | refine Gr.trans ?_ (by assumption))))) (World.news_of_block (cs := #[.int .i64 0, .slice a1 (wideL n (N.tr k).pre (-1)).length e1, .slice a2 (wideL n (N.tr k).post (-1)).length e2]) (t := 34) (fr := (0, 0)) (heap_alloc_new x2 _)) rfl rfl hob1 (Nat.le_trans hsz (Gr.le (show Gr wr _ from by (repeat (first | exact Gr.refl _ | assumption | apply Gr.alloc | apply Gr.drew | apply Gr.drewN | refine Gr.trans ?_ (by assumption)))))) ?_
                  intro g cp x3 ho3 hgr3 hat hlt3
                  have GXT : Gr (wr.alloc (.cells #[.int .i64 (N.tr k).label, .slice pa (N.tr k).pre.length pc, .slice qa (N.tr k).post.length qc] 34)) (x2.alloc (.cells #[.int .i64 0, .slice a1 (wideL n (N.tr k).pre (-1)).length e1, .slice a2 (wideL n (N.tr k).post (-1)).length e2] 34)) := by (repeat (first | exact Gr.refl _ | assumption | apply Gr.alloc | apply Gr.drew | apply Gr.drewN | refine Gr.trans ?_ (by assumption)))
                  have GX : Gr wr (x2.alloc (.cells #[.int .i64 0, .slice a1 (wideL n (N.tr k).pre (-1)).length e1, .slice a2 (wideL n (N.tr k).post (-1)).length e2] 34)) := (show Gr wr x2 from by (repeat (first | exact Gr.refl _ | assumption | apply Gr.alloc | apply Gr.drew | apply Gr.drewN | refine Gr.trans ?_ (by assumption)))).alloc _
                  have hb3 := (hb0.gr GX).grown hgr3 (fun e => by have := (HOL.out OX e.symm).1; omega)
                  have bt3 := (bt.gr GXT).grown hgr3 (fun e => by have := (HOL.out wr.heap.size e.symm).2; omega)
                  have k0 := hb3.cell (i := 1) rfl
                  have kf := hb3.frozen 1
                  have k1 := bt3.cell (i := 0) rfl
                  have k2 := bt3.cell (i := 1) rfl
                  have k3 := bt3.cell (i := 2) rfl
                  (refine hK.out _ _ ?_ (fun hHeld => ?_); · (exact ⟨k0, k1, k2, k3⟩))
                  clear hK K
                  try simp only [Act.put, List.setIfInBounds_toArray, List.set_cons_zero, List.set_cons_succ]
                  (refine hold13 (v := ?_) (by kernel_rfl) (by kernel_rfl) (by kernel_rfl) (fun _ _ _ h => h) (by rfl) (fun w' hSw => ?_) (by assumption) ?_; rotate_left 1; · ((try dsimp only at hSw); (try go_simp); (try (with_reducible rfl))); (try simp only [Act.put, List.setIfInBounds_toArray, List.set_cons_zero, List.set_cons_succ]))
                  refine ends14 (by kernel_rfl) (fun K hK => ?_)
                  go_simp
                  refine hK.out _ _ ?_
                  go_wp2_with fail
                  have hsz3 : OX + 1 ≤ x3.heap.size := Nat.le_trans hsz (Nat.le_trans (Gr.le GX) hgr3.size)
                  have hgr4 : Gr wo x3 := Gr.grown (hgz.trans GX) hgr3 (fun k' h => by have := (HOL.out k' h).1; omega)
                  go_roundw
                  case rel => exact ⟨k + 1, _, by omega, by go_num, by rw [HV.out]; congr 1, hb3.set 1 _, by rw [HB2.out]; exact ho3.other (a := ⟨OX, 1, none⟩) (Nat.lt_succ_self _) _, hgr4.setCell (Nat.le_of_eq HOX.out) _, by simp only [World.setCell, Array.size_modify]; exact hsz3⟩
                  case measure => simp [intOf]; omega
                · have q1 : ((N.tr k).label == 0) = false := by simpa using hl0
                  have hlp : 0 < (N.tr k).label := by have := (HLAB.out k hlt).1; omega
                  have HV := Lib.hid (visTo_yes hlt hlp)
                  have hb2' := busyTo_seen (n := n) hl0
                  rw [← HN0.out] at hb2'
                  have HB2 := Lib.hid hb2'
                  clear hb2'
                  have hnx2 : ((n0 + visTo N.trans k : Nat) : Int) < (n : Int) := by have h1 := visTo_yes hlt hlp; have h2 := visTo_mono (N := N) (k := k + 1) hlt (Nat.le_refl _); have := HNV.out; omega
                  have hnx : I64 ((n0 + visTo N.trans k : Nat) : Int) := by unfold I64; omega
                  clear hl0 F hlp
                  go_wp2_with fail
                  refine cut23 (S := fun w' => w'.cell? ⟨OX, 1, none⟩ = some (.slice oa ol oc) ∧ w'.cell? ⟨wr.heap.size, 0, none⟩ = some (.int .i64 (N.tr k).label) ∧ w'.cell? ⟨wr.heap.size, 1, none⟩ = some (.slice pa (N.tr k).pre.length pc) ∧ w'.cell? ⟨wr.heap.size, 2, none⟩ = some (.slice qa (N.tr k).post.length qc)) (by kernel_rfl) (by kernel_rfl) ⟨cell_gr B1 (by (repeat (first | exact Gr.refl _ | assumption | apply Gr.alloc | apply Gr.drew | apply Gr.drewN | refine Gr.trans ?_ (by assumption)))), cell_gr T0 (by (repeat (first | exact Gr.refl _ | assumption | apply Gr.alloc | apply Gr.drew | apply Gr.drewN | refine Gr.trans ?_ (by assumption)))), cell_gr T1 (by (repeat (first | exact Gr.refl _ | assumption | apply Gr.alloc | apply Gr.drew | apply Gr.drewN | refine Gr.trans ?_ (by assumption)))), cell_gr T2 (by (repeat (first | exact Gr.refl _ | assumption | apply Gr.alloc | apply Gr.drew | apply Gr.drewN | refine Gr.trans ?_ (by assumption))))⟩ (fun hHeld => ?_)
                  (refine hold0 (v := ?_) (by kernel_rfl) (by kernel_rfl) (by kernel_rfl) (fun _ _ _ h => h) (by rfl) (fun w' hSw => ?_) (by assumption) ?_; rotate_left 1; · ((try dsimp only at hSw); (try go_simp); (try (with_reducible rfl))); (try simp only [Act.put, List.setIfInBounds_toArray, List.set_cons_zero, List.set_cons_succ]))
                  (refine hold1 (v := ?_) (by kernel_rfl) (by kernel_rfl) (by kernel_rfl) (fun _ _ _ h => h) (by rfl) (fun w' hSw => ?_) (by assumption) ?_; rotate_left 1; · ((try dsimp only at hSw); (try go_simp); (try (with_reducible rfl))); (try simp only [Act.put, List.setIfInBounds_toArray, List.set_cons_zero, List.set_cons_succ]))
                  (refine hold2 (v := ?_) (by kernel_rfl) (by kernel_rfl) (by kernel_rfl) (fun _ _ _ h => h) (by rfl) (fun w' hSw => ?_) (by assumption) ?_; rotate_left 1; · ((try dsimp only at hSw); (try go_simp); (try (with_reducible rfl))); (try simp only [Act.put, List.setIfInBounds_toArray, List.set_cons_zero, List.set_cons_succ]))
                  (refine hold3 (v := ?_) (by kernel_rfl) (by kernel_rfl) (by kernel_rfl) (fun _ _ _ h => h) (by rfl) (fun w' hSw => ?_) (by assumption) ?_; rotate_left 1; · ((try dsimp only at hSw); (try go_simp); (try (with_reducible rfl))); (try simp only [Act.put, List.setIfInBounds_toArray, List.set_cons_zero, List.set_cons_succ]))
                  (refine hold4 (v := ?_) (by kernel_rfl) (by kernel_rfl) (by kernel_rfl) (fun _ _ _ h => h) (by rfl) (fun w' hSw => ?_) (by assumption) ?_; rotate_left 1; · ((try dsimp only at hSw); (try go_simp); (try (with_reducible rfl))); (try simp only [Act.put, List.setIfInBounds_toArray, List.set_cons_zero, List.set_cons_succ]))
                  (refine hold6 (v := ?_) (by kernel_rfl) (by kernel_rfl) (by kernel_rfl) (fun _ _ _ h => h) (by rfl) (fun w' hSw => ?_) (by assumption) ?_; rotate_left 1; · ((try dsimp only at hSw); (try go_simp); (try (with_reducible rfl))); (try simp only [Act.put, List.setIfInBounds_toArray, List.set_cons_zero, List.set_cons_succ]))
                  (refine hold7 (v := ?_) (by kernel_rfl) (by kernel_rfl) (by kernel_rfl) (fun _ _ _ h => h) (by rfl) (fun w' hSw => ?_) (by assumption) ?_; rotate_left 1; · ((try dsimp only at hSw); (try go_simp); (try (with_reducible rfl))); (try simp only [Act.put, List.setIfInBounds_toArray, List.set_cons_zero, List.set_cons_succ]))
                  (refine hold10 (v := ?_) (by kernel_rfl) (by kernel_rfl) (by kernel_rfl) (fun _ _ _ h => h) (by rfl) (fun w' hSw => ?_) (by assumption) ?_; rotate_left 1; · ((try dsimp only at hSw); (try go_simp); (try (with_reducible rfl))); (try simp only [Act.put, List.setIfInBounds_toArray, List.set_cons_zero, List.set_cons_succ]))
                  (refine hold11 (v := ?_) (by kernel_rfl) (by kernel_rfl) (by kernel_rfl) (fun _ _ _ h => h) (by rfl) (fun w' hSw => ?_) (by assumption) ?_; rotate_left 1; · ((try dsimp only at hSw); (try go_simp); (try (with_reducible rfl))); (try simp only [Act.put, List.setIfInBounds_toArray, List.set_cons_zero, List.set_cons_succ]))
                  (refine hold12 (v := ?_) (by kernel_rfl) (by kernel_rfl) (by kernel_rfl) (fun _ _ _ h => h) (by rfl) (fun w' hSw => ?_) (by assumption) ?_; rotate_left 1; · ((try dsimp only at hSw); (try go_simp); (try (with_reducible rfl))); (try simp only [Act.put, List.setIfInBounds_toArray, List.set_cons_zero, List.set_cons_succ]))
                  (refine hold13 (v := ?_) (by kernel_rfl) (by kernel_rfl) (by kernel_rfl) (fun _ _ _ h => h) (by rfl) (fun w' hSw => ?_) (by assumption) ?_; rotate_left 1; · ((try dsimp only at hSw); (try go_simp); (try (with_reducible rfl))); (try simp only [Act.put, List.setIfInBounds_toArray, List.set_cons_zero, List.set_cons_succ]))
                  (refine hold15 (v := ?_) (by kernel_rfl) (by kernel_rfl) (by kernel_rfl) (fun _ _ _ h => h) (by rfl) (fun w' hSw => ?_) (by assumption) ?_; rotate_left 1; · ((try dsimp only at hSw); (try go_simp); (try (with_reducible rfl))); (try simp only [Act.put, List.setIfInBounds_toArray, List.set_cons_zero, List.set_cons_succ]))
                  (refine hold16 (v := ?_) (by kernel_rfl) (by kernel_rfl) (by kernel_rfl) (fun _ _ _ h => h) (by rfl) (fun w' hSw => ?_) (by assumption) ?_; rotate_left 1; · ((try dsimp only at hSw); (try go_simp); (try (with_reducible rfl))); (try simp only [Act.put, List.setIfInBounds_toArray, List.set_cons_zero, List.set_cons_succ]))
                  (refine hold17 (v := ?_) (by kernel_rfl) (by kernel_rfl) (by kernel_rfl) (fun _ _ _ h => h) (by rfl) (fun w' hSw => ?_) (by assumption) ?_; rotate_left 1; · ((try dsimp only at hSw); (try go_simp); (try (with_reducible rfl))); (try simp only [Act.put, List.setIfInBounds_toArray, List.set_cons_zero, List.set_cons_succ]))
                  refine next5 (by kernel_rfl) (fun K hK => ?_)
                  go_simp
                  go_at_call 138
                  refine (Wide_calls _ (N.tr k).pre n w1.heap.size (-1) _ (hp.gr (by (repeat (first | exact Gr.refl _ | assumption | apply Gr.alloc | apply Gr.drew | apply Gr.drewN | refine Gr.trans ?_ (by assumption))))) (cell_gr P0 (by (repeat (first | exact Gr.refl _ | assumption | apply Gr.alloc | apply Gr.drew | apply Gr.drewN | refine Gr.trans ?_ (by assumption))))) hn16 hpre (by decide) hneg).mono ?_
                  rintro _ x1 ⟨v1, rfl, o1, g1⟩
                  obtain ⟨a1, e1, rfl, _, _⟩ := o1.ints.len
                  have h1 := Held.fresh (base := OX + 1) (row := (Value.slice oa ol oc).ownBlock) o1 (Nat.le_trans hsz (Gr.le (show Gr wr _ from by (repeat (first | exact Gr.refl _ | assumption | apply Gr.alloc | apply Gr.drew | apply Gr.drewN | refine Gr.trans ?_ (by assumption)))))) (fun k' h => Nat.lt_of_lt_of_le (HOL.out k' h).2 (Gr.le (show Gr wr _ from by (repeat (first | exact Gr.refl _ | assumption | apply Gr.alloc | apply Gr.drew | apply Gr.drewN | refine Gr.trans ?_ (by assumption)))))) (Gr.refl _)
                  (refine hK.out _ _ ?_ (fun hHeld => ?_); · (exact ⟨cell_gr B1 (by (repeat (first | exact Gr.refl _ | assumption | apply Gr.alloc | apply Gr.drew | apply Gr.drewN | refine Gr.trans ?_ (by assumption)))), cell_gr T0 (by (repeat (first | exact Gr.refl _ | assumption | apply Gr.alloc | apply Gr.drew | apply Gr.drewN | refine Gr.trans ?_ (by assumption)))), cell_gr T1 (by (repeat (first | exact Gr.refl _ | assumption | apply Gr.alloc | apply Gr.drew | apply Gr.drewN | refine Gr.trans ?_ (by assumption)))), cell_gr T2 (by (repeat (first | exact Gr.refl _ | assumption | apply Gr.alloc | apply Gr.drew | apply Gr.drewN | refine Gr.trans ?_ (by assumption))))⟩))
                  clear hK K
                  try simp only [Act.put, List.setIfInBounds_toArray, List.set_cons_zero, List.set_cons_succ]
                  refine next8 (by kernel_rfl) (fun K hK => ?_)
                  go_simp
                  go_at_call 138
                  refine (Wide_calls _ [] n w1.heap.size ((n0 + visTo N.trans k : Nat) : Int) _ (Ints.nil _) (cell_gr P0 (by (repeat (first | exact Gr.refl _ | assumption | apply Gr.alloc | apply Gr.drew | apply Gr.drewN | refine Gr.trans ?_ (by assumption))))) hn16 (Nat.zero_le _) hnx hnx2).mono ?_
                  rintro _ x2 ⟨v2, rfl, o2, g2⟩
                  obtain ⟨a2, e2, rfl, _, _⟩ := o2.ints.len
                  have h2 := Held.fresh (base := OX + 1) (row := (Value.slice oa ol oc).ownBlock) o2 (Nat.le_trans hsz (Gr.le (show Gr wr _ from by (repeat (first | exact Gr.refl _ | assumption | apply Gr.alloc | apply Gr.drew | apply Gr.drewN | refine Gr.trans ?_ (by assumption)))))) (fun k' h => Nat.lt_of_lt_of_le (HOL.out k' h).2 (Gr.le (show Gr wr _ from by (repeat (first | exact Gr.refl _ | assumption | apply Gr.alloc | apply Gr.drew | apply Gr.drewN | refine Gr.trans ?_ (by assumption)))))) (Gr.refl _)
                  (refine hK.out _ _ ?_ (fun hHeld => ?_); · (exact ⟨cell_gr B1 (by (repeat (first | exact Gr.refl _ | assumption | apply Gr.alloc | apply Gr.drew | apply Gr.drewN | refine Gr.trans ?_ (by assumption)))), cell_gr T0 (by (repeat (first | exact Gr.refl _ | assumption | apply Gr.alloc | apply Gr.drew | apply Gr.drewN | refine Gr.trans ?_ (by assumption)))), cell_gr T1 (by (repeat (first | exact Gr.refl _ | assumption | apply Gr.alloc | apply Gr.drew | apply Gr.drewN | refine Gr.trans ?_ (by assumption)))), cell_gr T2 (by (repeat (first | exact Gr.refl _ | assumption | apply Gr.alloc | apply Gr.drew | apply Gr.drewN | refine Gr.trans ?_ (by assumption))))⟩))
                  clear hK K
                  try simp only [Act.put, List.setIfInBounds_toArray, List.set_cons_zero, List.set_cons_succ]
                  (refine hold9 (v := ?_) (by kernel_rfl) (by kernel_rfl) (by kernel_rfl) (fun _ _ _ h => h) (by rfl) (fun w' hSw => ?_) (by assumption) ?_; rotate_left 1; · ((try dsimp only at hSw); (try go_simp); (try (with_reducible rfl))); (try simp only [Act.put, List.setIfInBounds_toArray, List.set_cons_zero, List.set_cons_succ]))
                  refine next14 (by kernel_rfl) (fun K hK => ?_)
                  go_simp
                  go_at_call 138
                  refine (Wide_calls _ [] n w1.heap.size ((n0 + visTo N.trans k : Nat) : Int) _ (Ints.nil _) (cell_gr P0 (by (repeat (first | exact Gr.refl _ | assumption | apply Gr.alloc | apply Gr.drew | apply Gr.drewN | refine Gr.trans ?_ (by assumption))))) hn16 (Nat.zero_le _) hnx hnx2).mono ?_
                  rintro _ x3 ⟨v3, rfl, o3, g3⟩
                  obtain ⟨a3, e3, rfl, _, _⟩ := o3.ints.len
                  have h3 := Held.fresh (base := OX + 1) (row := (Value.slice oa ol oc).ownBlock) o3 (Nat.le_trans hsz (Gr.le (show Gr wr _ from by (repeat (first | exact Gr.refl _ | assumption | apply Gr.alloc | apply Gr.drew | apply Gr.drewN | refine Gr.trans ?_ (by assumption)))))) (fun k' h => Nat.lt_of_lt_of_le (HOL.out k' h).2 (Gr.le (show Gr wr _ from by (repeat (first | exact Gr.refl _ | assumption | apply Gr.alloc | apply Gr.drew | apply Gr.drewN | refine Gr.trans ?_ (by assumption)))))) (Gr.refl _)
                  (refine hK.out _ _ ?_ (fun hHeld => ?_); · (exact ⟨cell_gr B1 (by (repeat (first | exact Gr.refl _ | assumption | apply Gr.alloc | apply Gr.drew | apply Gr.drewN | refine Gr.trans ?_ (by assumption)))), cell_gr T0 (by (repeat (first | exact Gr.refl _ | assumption | apply Gr.alloc | apply Gr.drew | apply Gr.drewN | refine Gr.trans ?_ (by assumption)))), cell_gr T1 (by (repeat (first | exact Gr.refl _ | assumption | apply Gr.alloc | apply Gr.drew | apply Gr.drewN | refine Gr.trans ?_ (by assumption)))), cell_gr T2 (by (repeat (first | exact Gr.refl _ | assumption | apply Gr.alloc | apply Gr.drew | apply Gr.drewN | refine Gr.trans ?_ (by assumption))))⟩))
                  clear hK K
                  try simp only [Act.put, List.setIfInBounds_toArray, List.set_cons_zero, List.set_cons_succ]
                  refine next18 (by kernel_rfl) (fun K hK => ?_)
                  go_simp
                  go_at_call 138
                  refine (Wide_calls _ (N.tr k).post n w1.heap.size (-1) _ (hq.gr (by (repeat (first | exact Gr.refl _ | assumption | apply Gr.alloc | apply Gr.drew | apply Gr.drewN | refine Gr.trans ?_ (by assumption))))) (cell_gr P0 (by (repeat (first | exact Gr.refl _ | assumption | apply Gr.alloc | apply Gr.drew | apply Gr.drewN | refine Gr.trans ?_ (by assumption))))) hn16 hpost (by decide) hneg).mono ?_
                  rintro _ x4 ⟨v4, rfl, o4, g4⟩
                  obtain ⟨a4, e4, rfl, _, _⟩ := o4.ints.len
                  have h4 := Held.fresh (base := OX + 1) (row := (Value.slice oa ol oc).ownBlock) o4 (Nat.le_trans hsz (Gr.le (show Gr wr _ from by (repeat (first | exact Gr.refl _ | assumption | apply Gr.alloc | apply Gr.drew | apply Gr.drewN | refine Gr.trans ?_ (by assumption)))))) (fun k' h => Nat.lt_of_lt_of_le (HOL.out k' h).2 (Gr.le (show Gr wr _ from by (repeat (first | exact Gr.refl _ | assumption | apply Gr.alloc | apply Gr.drew | apply Gr.drewN | refine Gr.trans ?_ (by assumption)))))) (Gr.refl _)
                  (refine hK.out _ _ ?_ (fun hHeld => ?_); · (exact ⟨cell_gr B1 (by (repeat (first | exact Gr.refl _ | assumption | apply Gr.alloc | apply Gr.drew | apply Gr.drewN | refine Gr.trans ?_ (by assumption)))), cell_gr T0 (by (repeat (first | exact Gr.refl _ | assumption | apply Gr.alloc | apply Gr.drew | apply Gr.drewN | refine Gr.trans ?_ (by assumption)))), cell_gr T1 (by (repeat (first | exact Gr.refl _ | assumption | apply Gr.alloc | apply Gr.drew | apply Gr.drewN | refine Gr.trans ?_ (by assumption)))), cell_gr T2 (by (repeat (first | exact Gr.refl _ | assumption | apply Gr.alloc | apply Gr.drew | apply Gr.drewN | refine Gr.trans ?_ (by assumption))))⟩))
                  clear hK K
                  try simp only [Act.put, List.setIfInBounds_toArray, List.set_cons_zero, List.set_cons_succ]
                  (refine hold19 (v := ?_) (by kernel_rfl) (by kernel_rfl) (by kernel_rfl) (fun _ _ _ h => h) (by rfl) (fun w' hSw => ?_) (by assumption) ?_; rotate_left 1; · ((try dsimp only at hSw); (try go_simp); (try (with_reducible rfl))); (try simp only [Act.put, List.setIfInBounds_toArray, List.set_cons_zero, List.set_cons_succ]))
                  refine next20 (by kernel_rfl) (fun K hK => ?_)
                  go_simp
                  (refine hK.out _ _ ?_ (fun hHeld => ?_); · (exact ⟨cell_gr B1 (by (repeat (first | exact Gr.refl _ | assumption | apply Gr.alloc | apply Gr.drew | apply Gr.drewN | refine Gr.trans ?_ (by assumption)))), cell_gr T0 (by (repeat (first | exact Gr.refl _ | assumption | apply Gr.alloc | apply Gr.drew | apply Gr.drewN | refine Gr.trans ?_ (by assumption)))), cell_gr T1 (by (repeat (first | exact Gr.refl _ | assumption | apply Gr.alloc | apply Gr.drew | apply Gr.drewN | refine Gr.trans ?_ (by assumption)))), cell_gr T2 (by (repeat (first | exact Gr.refl _ | assumption | apply Gr.alloc | apply Gr.drew | apply Gr.drewN | refine Gr.trans ?_ (by assumption))))⟩))
                  clear hK K
                  try simp only [Act.put, List.setIfInBounds_toArray, List.set_cons_zero, List.set_cons_succ]
                  refine next21 (by kernel_rfl) (fun K hK => ?_)
                  refine step_app_tran2 T (by rfl) _ _ (by rfl) (OX + 1) (.slice oa ol oc) (busyTo N n k) ⟨0, wideL n (N.tr k).pre (-1), wideL n [] ((n0 + visTo N.trans k : Nat) : Int)⟩ ⟨(N.tr k).label, wideL n [] ((n0 + visTo N.trans k : Nat) : Int), wideL n (N.tr k).post (-1)⟩ (.slice a1 (wideL n (N.tr k).pre (-1)).length e1) (.slice a2 (wideL n [] ((n0 + visTo N.trans k : Nat) : Int)).length e2) (.slice a3 (wideL n [] ((n0 + visTo N.trans k : Nat) : Int)).length e3) (.slice a4 (wideL n (N.tr k).post (-1)).length e4) ⟨x4.heap.size, 0, none⟩ (by rfl) (by rfl) (ho.gr (by (repeat (first | exact Gr.refl _ | assumption | apply Gr.alloc | apply Gr.drew | apply Gr.drewN | refine Gr.trans ?_ (by assumption))))) i0 (h1.gr (by (repeat (first | exact Gr.refl _ | assumption | apply Gr.alloc | apply Gr.drew | apply Gr.drewN | refine Gr.trans ?_ (by assumption))))) (h2.gr (by (repeat (first | exact Gr.refl _ | assumption | apply Gr.alloc | apply Gr.drew | apply Gr.drewN | refine Gr.trans ?_ (by assumption))))) hlI (h3.gr (by (repeat (first | exact Gr.refl _ | assumption | apply Gr.alloc | apply Gr.drew | apply Gr.drewN | refine Gr.trans ?_ (by assumption))))) (h4.gr (by (repeat (first | exact Gr.refl _ | assumption | apply Gr.alloc | apply Gr.drew | apply Gr.drewN | refine Gr.trans ?_ (by assumption))))) (World.news_of_block (cs := #[.int .i64 0, .slice a1 (wideL n (N.tr k).pre (-1)).length e1, .slice a2 (wideL n [] ((n0 + visTo N.trans k : Nat) : Int)).length e2, .int .i64 (N.tr k).label, .slice a3 (wideL n [] ((n0 + visTo N.trans k : Nat) : Int)).length e3, .slice a4 (wideL n (N.tr k).post (-1)).length e4]) (t := 34) (fr := (0, 0)) (heap_alloc_new x4 _)) rfl rfl rfl rfl hob (Nat.le_trans hsz (Gr.le (show Gr wr _ from by (repeat (first | exact Gr.refl _ | assumption | apply Gr.alloc | apply Gr.drew | apply Gr.drewN | refine Gr.trans ?_ (by assumption)))))) ?_
                  intro g cp x5 ho3 hgr3 hat hlt3
                  have GXT : Gr (wr.alloc (.cells #[.int .i64 (N.tr k).label, .slice pa (N.tr k).pre.length pc, .slice qa (N.tr k).post.length qc] 34)) (x4.alloc (.cells #[.int .i64 0, .slice a1 (wideL n (N.tr k).pre (-1)).length e1, .slice a2 (wideL n [] ((n0 + visTo N.trans k : Nat) : Int)).length e2, .int .i64 (N.tr k).label, .slice a3 (wideL n [] ((n0 + visTo N.trans k : Nat) : Int)).length e3, .slice a4 (wideL n (N.tr k).post (-1)).length e4] 34)) := by (repeat (first | exact Gr.refl _ | assumption | apply Gr.alloc | apply Gr.drew | apply Gr.drewN | refine Gr.trans ?_ (by assumption)))
                  have GX : Gr wr (x4.alloc (.cells #[.int .i64 0, .slice a1 (wideL n (N.tr k).pre (-1)).length e1, .slice a2 (wideL n [] ((n0 + visTo N.trans k : Nat) : Int)).length e2, .int .i64 (N.tr k).label, .slice a3 (wideL n [] ((n0 + visTo N.trans k : Nat) : Int)).length e3, .slice a4 (wideL n (N.tr k).post (-1)).length e4] 34)) := (show Gr wr x4 from by (repeat (first | exact Gr.refl _ | assumption | apply Gr.alloc | apply Gr.drew | apply Gr.drewN | refine Gr.trans ?_ (by assumption)))).alloc _
                  have hb3 := (hb0.gr GX).grown hgr3 (fun e => by have := (HOL.out OX e.symm).1; omega)
                  have bt3 := (bt.gr GXT).grown hgr3 (fun e => by have := (HOL.out wr.heap.size e.symm).2; omega)
                  have k0 := hb3.cell (i := 1) rfl
                  have kf := hb3.frozen 1
                  have k1 := bt3.cell (i := 0) rfl
                  have k2 := bt3.cell (i := 1) rfl
                  have k3 := bt3.cell (i := 2) rfl
                  (refine hK.out _ _ ?_ (fun hHeld => ?_); · (exact ⟨k0, k1, k2, k3⟩))
                  clear hK K
                  try simp only [Act.put, List.setIfInBounds_toArray, List.set_cons_zero, List.set_cons_succ]
                  (refine hold22 (v := ?_) (by kernel_rfl) (by kernel_rfl) (by kernel_rfl) (fun _ _ _ h => h) (by rfl) (fun w' hSw => ?_) (by assumption) ?_; rotate_left 1; · ((try dsimp only at hSw); (try go_simp); (try (with_reducible rfl))); (try simp only [Act.put, List.setIfInBounds_toArray, List.set_cons_zero, List.set_cons_succ]))
                  refine ends23 (by kernel_rfl) (fun K hK => ?_)
                  go_simp
                  refine hK.out _ _ ?_
                  go_wp2_with fail
                  have hsz3 : OX + 1 ≤ x5.heap.size := Nat.le_trans hsz (Nat.le_trans (Gr.le GX) hgr3.size)
                  have hgr4 : Gr wo x5 := Gr.grown (hgz.trans GX) hgr3 (fun k' h => by have := (HOL.out k' h).1; omega)
                  go_roundw
                  case rel => exact ⟨k + 1, _, by omega, by go_num, by rw [HV.out]; congr 1, hb3.set 1 _, by rw [HB2.out]; exact ho3.other (a := ⟨OX, 1, none⟩) (Nat.lt_succ_self _) _, hgr4.setCell (Nat.le_of_eq HOX.out) _, by simp only [World.setCell, Array.size_modify]; exact hsz3⟩
                  case measure => simp [intOf]; omega
              · obtain rfl : k = N.trans.length := by omega
                have O0 := hb0.cell (i := 0) rfl
                have O1 := hb0.cell (i := 1) rfl
                replace b3 := b3.gr hgz
                have hbw := hw0.out
                have hox1 : w1.heap.size ≤ OX := by rw [← HOX.out]; exact hgr.le
                clear hbw
                have D0 := b3.cell (i := 0) rfl
                have D1 := b3.cell (i := 1) rfl
                have F0 := b3.frozen 0
                have hb2 := b3.set 0 (.int .i64 (n : Int))
                have F1 := hb2.frozen 1
                have D2 := hb2.cell (i := 1) rfl
                have hb3 := hb2.set 1 (.slice oa ol oc)
                have E0 := hb3.cell (i := 0) rfl
                have E1 := hb3.cell (i := 1) rfl
                go_wp2_with fail
                refine bodyPost_ret (v := .tuple #[.agg #[.int .i64 (n : Int), .slice oa ol oc], .int .i64 0]) (by simp [results, Try.results103, go_sem, E0, E1]) rfl ?_
                have hbw := hw0.out
                have ht := ((ho.other (a := ⟨w.heap.size + 1, 0, none⟩) (by simp; omega) (.int .i64 (n : Int))).other (a := ⟨w.heap.size + 1, 1, none⟩) (by simp; omega) (.slice oa ol oc)).trans
                refine RetBN.mk HC.out ?_ ((((gw.trans hgr).trans hgz).setCell (by simp) _).setCell (by simp) _)
                unfold busyN
                rw [HBP.out]
                exact NetR.mk_ (N := ⟨(n : Int), busyTo N n N.trans.length⟩) ht (by unfold I64; simp only []; omega)
end Go.Proofs.Ytidpppfimkhgkaa
