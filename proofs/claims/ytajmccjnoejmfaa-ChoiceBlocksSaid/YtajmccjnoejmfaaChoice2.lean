/- Contract of choice.Free. -/
import Derived.Test.YtajmccjnoejmfaaChoice1
import Derived.Test.YtajmccjnoejmfaaGN
import Derived.Test.YtajmccjnoejmfaaGM
namespace Go.Tok
open Go.RowKit
/-- the pair does no harm -/
def pairB (N : NetD) (i j : Nat) : Bool := !sharesB (N.tr i) (N.tr j) || decide ((N.tr i).pre = (N.tr j).pre)
def FreeUpto (N : NetD) (k : Nat) : Prop := ∀ i j, i < k → j < i → pairB N i j = true
def FreeRow (N : NetD) (i k : Nat) : Prop := ∀ j, j < k → pairB N i j = true
theorem FreeUpto.zero (N : NetD) : FreeUpto N 0 := fun i j hi => by omega
theorem FreeRow.zero (N : NetD) (i : Nat) : FreeRow N i 0 := fun j hj => by omega
theorem FreeRow.succ {N : NetD} {i k : Nat} (h : FreeRow N i k) (hk : pairB N i k = true) : FreeRow N i (k + 1) := fun j hj => by
  rcases Nat.lt_or_ge j k with h1 | h1
  · exact h j h1
  · obtain rfl : j = k := by omega
    exact hk
theorem FreeUpto.succ {N : NetD} {k : Nat} (h : FreeUpto N k) (hk : FreeRow N k k) : FreeUpto N (k + 1) := fun i j hi hj => by
  rcases Nat.lt_or_ge i k with h1 | h1
  · exact h i j h1 hj
  · obtain rfl : i = k := by omega
    exact hk j hj
theorem FreeUpto.all {N : NetD} (h : FreeUpto N N.trans.length) : freeB N = true := by
  unfold freeB
  rw [List.all_eq_true]
  intro i hi
  rw [List.all_eq_true]
  intro j hj
  exact h i j (by simpa using hi) (by simpa using hj)
theorem free_no {N : NetD} {i j : Nat} (hi : i < N.trans.length) (hj : j < i) (h : pairB N i j = false) : freeB N = false := by
  cases hf : freeB N
  · rfl
  · unfold freeB at hf
    have := List.all_eq_true.1 (List.all_eq_true.1 hf i (by simpa using hi)) j (by simpa using hj)
    unfold pairB at h
    rw [h] at this; cases this
theorem pair_apart {N : NetD} {i j : Nat} (h : sharesB (N.tr i) (N.tr j) = false) : pairB N i j = true := by simp [pairB, h]
theorem pair_eq {N : NetD} {i j : Nat} (h : eqB (N.tr i).pre (N.tr j).pre = true) : pairB N i j = true := by simp [pairB, (eqB_iff _ _).1 h]
theorem pair_bad {N : NetD} {i j : Nat} (hs : sharesB (N.tr i) (N.tr j) = true) (h : eqB (N.tr i).pre (N.tr j).pre = false) : pairB N i j = false := by
  have : ¬ (N.tr i).pre = (N.tr j).pre := fun e => by rw [(eqB_iff _ _).2 e] at h; cases h
  simp [pairB, hs, this]
def freeN (N : NetD) : Bool := netOkB N && freeB N
end Go.Tok
namespace Go.Proofs.Ytajmccjnoejmfaa
open Go.RowKit Go.Tok
set_option linter.unusedVariables false
set_option maxHeartbeats 4000000 in
set_option maxRecDepth 100000 in
theorem Free_calls (v : Value) (N : NetD) (w : World) (hN : NetR w v N) :
    Calls Try.prog 27 #[v] w fun e w' => e = .returned (.bool (freeN N)) ∧ Gr w w' := by
  have hN' := hN
  obtain ⟨a, cap, rfl, hnl, hncap, hpl, hT⟩ := hN.open_
  have hpl1 := hpl.1
  have hpl2 := hpl.2
  have GA : Gr w (w.alloc (.cells #[.int .i64 N.places, .slice a N.trans.length cap] 28)) := (Gr.refl w).alloc _
  have bN : Blk (w.alloc (.cells #[.int .i64 N.places, .slice a N.trans.length cap] 28)) w.heap.size 28 #[.int .i64 N.places, .slice a N.trans.length cap] := Blk.new rfl
  cases h0 : netOkB N
  · have e0 := wrongC_no h0
    have HF := Lib.hid (show freeN N = false by simp [freeN, h0])
    clear h0
    go_enter Try.func27, Try.ntmps27
    go_wp2_with fail
    refine (Wrong_calls _ N _ (hN'.gr GA)).mono ?_
    rw [e0]; rintro _ w1 ⟨rfl, g1⟩
    go_wp2_with fail
    go_ret
    exact ⟨ret_bool HF.out.symm, by (repeat (first | exact Gr.refl _ | assumption | apply Gr.alloc | apply Gr.drew | apply Gr.drewN | refine Gr.trans ?_ (by assumption)))⟩
  · have e0 := wrongC_yes h0
    have HOK := Lib.hid h0
    have hpre : ∀ i j, i < N.trans.length → j < N.trans.length → (N.tr i).pre.length ≤ (N.tr j).pre.length := fun i j hi hj => by
      have h1 := (netOk_tr h0 hi).pre
      have h2 := (netOk_tr h0 hj).pre
      omega
    have HPRE := Lib.hid hpre
    clear h0 hpre
    go_enter Try.func27, Try.ntmps27
    go_wp2_with fail
    refine (Wrong_calls _ N _ (hN'.gr GA)).mono ?_
    rw [e0]; rintro _ w1 ⟨rfl, g1⟩
    have b1 := bN.gr g1
    have G1 := GA.trans g1
    have C1 := b1.cell (i := 1) rfl
    clear bN g1 GA
    go_wp2_with fail
    go_loopw [13] (fun i wr => ∃ k : Nat, k ≤ N.trans.length ∧ i = .int .i64 k ∧ FreeUpto N k ∧ Gr w1 wr) (fun i _ => N.trans.length - (intOf i).toNat)
    case atStart => exact ⟨0, Nat.zero_le _, rfl, FreeUpto.zero _, Gr.refl _⟩
    case round =>
      rename_i wr _
      obtain ⟨k, hk, rfl, hall, hgr⟩ := hrel
      have HALL := Lib.hid hall
      clear hall
      by_cases hlt : k < N.trans.length
      · have G2 := G1.trans hgr
        have D1 := cell_gr C1 hgr
        obtain ⟨b, o, vp, vq, rfl, c0, c1, c2, hlab, hp, hq⟩ := (hT.gr G2).at_ hlt
        obtain ⟨pa, pc, rfl, pl, pl'⟩ := hp.len
        obtain ⟨qa, qc, rfl, ql, ql'⟩ := hq.len
        have gk : Gr wr (wr.alloc (.cells #[.int .i64 (N.tr k).label, .slice pa (N.tr k).pre.length pc, .slice qa (N.tr k).post.length qc] 34)) := (Gr.refl _).alloc _
        have bA : Blk (wr.alloc (.cells #[.int .i64 (N.tr k).label, .slice pa (N.tr k).pre.length pc, .slice qa (N.tr k).post.length qc] 34)) wr.heap.size 34 #[.int .i64 (N.tr k).label, .slice pa (N.tr k).pre.length pc, .slice qa (N.tr k).post.length qc] := Blk.new rfl
        have D1' := cell_gr D1 gk
        have hkI : (k : Int) < (N.trans.length : Int) := by omega
        have hkN : k ≤ N.trans.length := hk
        have hkI2 : (k : Int) ≤ (N.trans.length : Int) := by omega
        have hkc : k ≤ cap := by omega
        have hkcI : (k : Int) ≤ (cap : Int) := by omega
        go_wp2_with fail
        go_loopw [23] (fun i wr' => ∃ j : Nat, j ≤ k ∧ i = .int .i64 j ∧ FreeRow N k j ∧ Gr (wr.alloc (.cells #[.int .i64 (N.tr k).label, .slice pa (N.tr k).pre.length pc, .slice qa (N.tr k).post.length qc] 34)) wr') (fun i _ => k - (intOf i).toNat)
        case atStart => exact ⟨0, Nat.zero_le _, rfl, FreeRow.zero _ _, Gr.refl _⟩
        case round =>
          rename World => wq
          obtain ⟨j, hj, rfl, hrow, hgq⟩ := hrel
          have HROW := Lib.hid hrow
          clear hrow
          by_cases hjlt : j < k
          · have bA' := bA.gr hgq
            have A0 := bA'.cell (i := 0) rfl
            have A1 := bA'.cell (i := 1) rfl
            have A2 := bA'.cell (i := 2) rfl
            have G3 := (G2.trans gk).trans hgq
            obtain ⟨b', o', up, uq, hb', d0, d1, d2, hlab', hp', hq'⟩ := (hT.gr G3).at_ (show j < N.trans.length by omega)
            cases hb'
            obtain ⟨pa', pc', rfl, pl2, pl2'⟩ := hp'.len
            obtain ⟨qa', qc', rfl, ql2, ql2'⟩ := hq'.len
            have hjI : (j : Int) < (k : Int) := by omega
            have gj : Gr wq (wq.alloc (.cells #[.int .i64 (N.tr j).label, .slice pa' (N.tr j).pre.length pc', .slice qa' (N.tr j).post.length qc'] 34)) := (Gr.refl _).alloc _
            have bB : Blk (wq.alloc (.cells #[.int .i64 (N.tr j).label, .slice pa' (N.tr j).pre.length pc', .slice qa' (N.tr j).post.length qc'] 34)) wq.heap.size 34 #[.int .i64 (N.tr j).label, .slice pa' (N.tr j).pre.length pc', .slice qa' (N.tr j).post.length qc'] := Blk.new rfl
            have A0' := cell_gr A0 gj
            have A1' := cell_gr A1 gj
            have A2' := cell_gr A2 gj
            have G4 := (gk.trans hgq).trans gj
            have G5 := hgq.trans gj
            cases hs : sharesB (N.tr k) (N.tr j)
            · have HP := Lib.hid (HROW.out.succ (pair_apart hs))
              go_wp2_with fail
              refine (shares_calls _ _ _ _ (N.tr k) (N.tr j) _ (hp.gr G4) (hq.gr G4) (hp'.gr gj) (hq'.gr gj) (HPRE.out k j hlt (by omega))).mono ?_
              rw [hs]; rintro _ w4 ⟨rfl, g4⟩
              go_wp2_with fail
              go_roundw
              case rel => exact ⟨j + 1, by omega, by go_num, HP.out, G5.trans g4⟩
              case measure => simp [intOf]; omega
            · cases he : eqB (N.tr k).pre (N.tr j).pre
              · have HP := Lib.hid (show freeN N = false by rw [freeN, free_no hlt hjlt (pair_bad hs he), Bool.and_false])
                go_wp2_with fail
                refine (shares_calls _ _ _ _ (N.tr k) (N.tr j) _ (hp.gr G4) (hq.gr G4) (hp'.gr gj) (hq'.gr gj) (HPRE.out k j hlt (by omega))).mono ?_
                rw [hs]; rintro _ w4 ⟨rfl, g4⟩
                have E1 := cell_gr A1' g4
                have E2 := (bB.gr g4).cell (i := 1) rfl
                go_wp2_with fail
                refine (Equal_calls _ _ (N.tr k).pre (N.tr j).pre _ (hp.gr (G4.trans g4)) (hp'.gr (gj.trans g4))).mono ?_
                rw [he]; rintro _ w5 ⟨rfl, g5⟩
                go_wp2_with fail
                go_ret
                exact ⟨ret_bool HP.out.symm, ((G2.trans G4).trans g4).trans g5⟩
              · have HP := Lib.hid (HROW.out.succ (pair_eq he))
                go_wp2_with fail
                refine (shares_calls _ _ _ _ (N.tr k) (N.tr j) _ (hp.gr G4) (hq.gr G4) (hp'.gr gj) (hq'.gr gj) (HPRE.out k j hlt (by omega))).mono ?_
                rw [hs]; rintro _ w4 ⟨rfl, g4⟩
                have E1 := cell_gr A1' g4
                have E2 := (bB.gr g4).cell (i := 1) rfl
                go_wp2_with fail
                refine (Equal_calls _ _ (N.tr k).pre (N.tr j).pre _ (hp.gr (G4.trans g4)) (hp'.gr (gj.trans g4))).mono ?_
                rw [he]; rintro _ w5 ⟨rfl, g5⟩
                go_wp2_with fail
                go_roundw
                case rel => exact ⟨j + 1, by omega, by go_num, HP.out, (G5.trans g4).trans g5⟩
                case measure => simp [intOf]; omega
          · obtain rfl : j = k := by omega
            have HP := Lib.hid (HALL.out.succ HROW.out)
            go_wp2_with fail
            go_roundw
            case rel => exact ⟨j + 1, by omega, by go_num, HP.out, (hgr.trans gk).trans hgq⟩
            case measure => simp [intOf]; omega
      · obtain rfl : k = N.trans.length := by omega
        have HP := Lib.hid (show freeN N = true by rw [freeN, HALL.out.all, HOK.out]; rfl)
        go_wp2_with fail
        go_ret
        exact ⟨ret_bool HP.out.symm, G1.trans hgr⟩
end Go.Proofs.Ytajmccjnoejmfaa
