/- Contracts of slices.Max at '[]int' and of ordinary. Condition of ordinary: the lists of each transition have together at most 17592186044000 elements. -/
import Derived.Test.YtmigejcejnofiaaOrdLaw
import Derived.Test.YtmigejcejnofiaaNet4
import Derived.Test.YtmigejcejnofiaaSl2
import Derived.Test.YtmigejcejnofiaaStep
import Derived.Test.YtmigejcejnofiaaSl
namespace Go.Proofs.Ytmigejcejnofiaa
open Go.RowKit Go.Tok
set_option linter.unusedVariables false

set_option maxHeartbeats 1000000 in
theorem Max_calls (v : Value) (xs : List Int) (w : World) (hv : Ints w v xs) (h0 : 0 < xs.length) :
    Calls Try.prog 86 #[v] w fun e w' => e = .returned (.int .i64 (maxF xs)) ∧ w = w' := by
  obtain ⟨a, cap, rfl, hlc, hcap⟩ := hv.len
  obtain ⟨b, o, rfl, c0⟩ := hv.cell h0
  rw [Nat.add_zero] at c0
  go_enter Try.func86, Try.ntmps86
  go_wp2_with fail
  go_loop [3, 4] (fun m i => ∃ k : Nat, k + 1 ≤ xs.length ∧ i = .int .i64 ((k : Int) + 1) ∧ m = .int .i64 (maxTo xs k)) (fun _ i => xs.length - (intOf i).toNat)
  case atStart => exact ⟨0, h0, rfl, by rw [maxTo_zero]⟩
  case round =>
    obtain ⟨k, hk, rfl, rfl⟩ := hrel
    by_cases hlt : k + 1 < xs.length
    · obtain ⟨_, _, hb, hcell⟩ := hv.cell hlt
      cases hb
      have e1 : ((k : Int) + 1) = ((k + 1 : Nat) : Int) := by simp
      have HE := Lib.hid e1
      have n1 : (0 : Int) ≤ ((k + 1 : Nat) : Int) := by omega
      have n2 : ((k + 1 : Nat) : Int) < (xs.length : Int) := by omega
      rw [e1]
      clear e1
      go_wp2_with fail
      go_round
      case rel => exact ⟨k + 1, by omega, by simp, by rw [maxTo_step]⟩
      case measure => simp [intOf]; omega
    · have hk' : xs.length - 1 = k := by omega
      have HK := Lib.hid hk'
      clear hk'
      go_wp2_with fail
      go_ret
      exact ⟨ret_i64 (by rw [maxF_def, HK.out]), rfl⟩

set_option maxHeartbeats 4000000 in
set_option maxRecDepth 100000 in
theorem ordinary_calls (v : Value) (N : NetD) (w : World) (hN : NetR w v N) (hB : ∀ k, k < N.trans.length → (N.tr k).pre.length + (N.tr k).post.length ≤ 17592186044000) :
    Calls Try.prog 40 #[v] w fun e w' => e = .returned (.bool (ordB N)) ∧ Gr w w' := by
  have T := intTy
  have hN' := hN
  obtain ⟨a, cap, rfl, hnl, hncap, hpl, hT⟩ := hN.open_
  have hpl1 := hpl.1
  have hpl2 := hpl.2
  have HB := Lib.hid hB
  clear hB
  go_enter Try.func40, Try.ntmps40
  go_wp2_with fail
  go_loopw [8] (fun i wr => ∃ k : Nat, k ≤ N.trans.length ∧ i = .int .i64 k ∧ OrdUpto N k ∧ Gr (w.alloc (.cells #[.int .i64 N.places, .slice a N.trans.length cap] 24)) wr) (fun i _ => N.trans.length - (intOf i).toNat)
  case atStart => exact ⟨0, Nat.zero_le _, rfl, OrdUpto.zero _, Gr.refl _⟩
  case round =>
    rename_i wr _
    obtain ⟨k, hk, rfl, hall, hgr⟩ := hrel
    by_cases hlt : k < N.trans.length
    · obtain ⟨b, o, vp, vq, rfl, c0, c1, c2, hlab, hp, hq⟩ := (hT.gr (box_gr hgr)).at_ hlt
      obtain ⟨pa, pc, rfl, pl, pl'⟩ := hp.len
      obtain ⟨qa, qc, rfl, ql, ql'⟩ := hq.len
      have hb := HB.out k hlt
      go_wp2_with fail
      refine (Concat_calls _ [(N.tr k).pre, (N.tr k).post] _ (Mat.lit2 (by simp) (hp.gr (by (repeat (first | exact Gr.refl _ | assumption | apply Gr.alloc | apply Gr.drew | apply Gr.drewN | refine Gr.trans ?_ (by assumption))))) (hq.gr (by (repeat (first | exact Gr.refl _ | assumption | apply Gr.alloc | apply Gr.drew | apply Gr.drewN | refine Gr.trans ?_ (by assumption)))))) (by simp; omega)).mono ?_
      rintro _ w4 ⟨v4, rfl, o4, g4⟩
      have ef : [(N.tr k).pre, (N.tr k).post].flatten = (N.tr k).pre ++ (N.tr k).post := by simp
      rw [ef] at o4
      clear ef
      have hcs := ord_cases (N.tr k)
      have hl4 : ((N.tr k).pre ++ (N.tr k).post).length + 1 ≤ 17592186044416 := by simp; omega
      have hl5 : (N.tr k).pre.length + 1 ≤ 17592186044416 := by omega
      have hl6 : (N.tr k).pre.length ≤ 17592186044416 := by omega
      generalize hLL : (N.tr k).pre ++ (N.tr k).post = L at *
      have HLL := Lib.hid hLL
      clear hLL
      go_wp2_with (at_builtin; refine app_int T _ _ _ _ L ⟨w4.heap.size, 0, none⟩ 0 rfl rfl (by rfl) (by rfl) (o4.alloc _) (lit_cell (by rfl)) (by decide) hl4 (Gr.le (by (repeat (first | exact Gr.refl _ | assumption | apply Gr.alloc | apply Gr.drew | apply Gr.drewN | refine Gr.trans ?_ (by assumption))))) ?_; intro v5 w5 o5 hg5 _ _)
      have G5 : Gr (wr.alloc (.cells #[.int .i64 (N.tr k).label, .slice pa (N.tr k).pre.length pc, .slice qa (N.tr k).post.length qc] 74)) w5 := hg5 _ (Gr.le (by (repeat (first | exact Gr.refl _ | assumption | apply Gr.alloc | apply Gr.drew | apply Gr.drewN | refine Gr.trans ?_ (by assumption))))) (by (repeat (first | exact Gr.refl _ | assumption | apply Gr.alloc | apply Gr.drew | apply Gr.drewN | refine Gr.trans ?_ (by assumption))))
      have G5' := box_gr G5
      have T1 := box_cell G5 (i := 1) rfl
      refine (Max_calls _ _ _ o5.ints (by simp)).mono ?_
      rintro _ _ ⟨rfl, rfl⟩
      clear hg5 o4 o5
      rcases hcs with ⟨h1, h3⟩ | ⟨h1, h2, h3⟩ | ⟨h1, h2, h3⟩
      · have HC := Lib.hid (ordB_no hlt h3)
        clear h3
        go_wp2_with fail
        go_ret
        exact ⟨ret_bool HC.out.symm, by (repeat (first | exact Gr.refl _ | assumption | apply Gr.alloc | apply Gr.drew | apply Gr.drewN | refine Gr.trans ?_ (by assumption)))⟩
      · have HC := Lib.hid (ordB_no hlt h3)
        have hd : decide (1 < maxF (L ++ [0])) = false := by simpa using h1
        have q2 : (maxF ((N.tr k).pre ++ [0]) == 0) = true := by simp [h2]
        clear h3 h2
        go_wp2_with fail
        refine (Clone_calls _ (N.tr k).pre _ (hp.gr G5') hl6).mono ?_
        rintro _ w6 ⟨v6, rfl, o6, g6⟩
        go_wp2_with (at_builtin; go_loud (refine app_int_g T (by rfl) _ _ rfl _ _ (N.tr k).pre ⟨w6.heap.size, 0, none⟩ 0 (by rfl) (by rfl) (o6.alloc _) (lit_cell (by rfl)) (by decide) hl5 (Gr.le (by (repeat (first | exact Gr.refl _ | assumption | apply Gr.alloc | apply Gr.drew | apply Gr.drewN | refine Gr.trans ?_ (by assumption))))) ?_; intro g7 c7 w7 o7 hg7 _ _ _))
        have G7 : Gr w5 w7 := hg7 _ (Nat.le_refl _) (by (repeat (first | exact Gr.refl _ | assumption | apply Gr.alloc | apply Gr.drew | apply Gr.drewN | refine Gr.trans ?_ (by assumption))))
        refine (Max_calls _ _ _ o7.ints (by simp)).mono ?_
        rintro _ _ ⟨rfl, rfl⟩
        clear hg7 o6 o7
        go_wp2_with fail
        go_ret
        exact ⟨ret_bool HC.out.symm, by (repeat (first | exact Gr.refl _ | assumption | apply Gr.alloc | apply Gr.drew | apply Gr.drewN | refine Gr.trans ?_ (by assumption)))⟩
      · have HC := Lib.hid (hall.succ h3)
        have hd : decide (1 < maxF (L ++ [0])) = false := by simpa using h1
        have q2 : (maxF ((N.tr k).pre ++ [0]) == 0) = false := by simpa using h2
        clear h3 h2
        go_wp2_with fail
        refine (Clone_calls _ (N.tr k).pre _ (hp.gr G5') hl6).mono ?_
        rintro _ w6 ⟨v6, rfl, o6, g6⟩
        go_wp2_with (at_builtin; go_loud (refine app_int_g T (by rfl) _ _ rfl _ _ (N.tr k).pre ⟨w6.heap.size, 0, none⟩ 0 (by rfl) (by rfl) (o6.alloc _) (lit_cell (by rfl)) (by decide) hl5 (Gr.le (by (repeat (first | exact Gr.refl _ | assumption | apply Gr.alloc | apply Gr.drew | apply Gr.drewN | refine Gr.trans ?_ (by assumption))))) ?_; intro g7 c7 w7 o7 hg7 _ _ _))
        have G7 : Gr w5 w7 := hg7 _ (Nat.le_refl _) (by (repeat (first | exact Gr.refl _ | assumption | apply Gr.alloc | apply Gr.drew | apply Gr.drewN | refine Gr.trans ?_ (by assumption))))
        refine (Max_calls _ _ _ o7.ints (by simp)).mono ?_
        rintro _ _ ⟨rfl, rfl⟩
        clear hg7 o6 o7
        go_wp2_with fail
        go_roundw
        case rel => exact ⟨k + 1, by omega, by go_num, HC.out, by (repeat (first | exact Gr.refl _ | assumption | apply Gr.alloc | apply Gr.drew | apply Gr.drewN | refine Gr.trans ?_ (by assumption)))⟩
        case measure => simp [intOf]; omega
    · obtain rfl : k = N.trans.length := by omega
      have ha := hall.all
      have B0 := box_cell hgr (i := 0) rfl
      have B1 := box_cell hgr (i := 1) rfl
      cases hn : netOkB N
      · have e1 := wrongC_no hn
        have HC := Lib.hid (show ordB N = false by rw [ha, hn]; rfl)
        clear ha hn
        go_wp2_with fail
        refine (Wrong_calls _ N _ (hN'.gr (box_gr hgr))).mono ?_
        rw [e1]; rintro _ w1 ⟨rfl, g1⟩
        go_wp2_with fail
        go_ret
        exact ⟨ret_bool HC.out.symm, by (repeat (first | exact Gr.refl _ | assumption | apply Gr.alloc | apply Gr.drew | apply Gr.drewN | refine Gr.trans ?_ (by assumption)))⟩
      · have e1 := wrongC_yes hn
        have HC := Lib.hid (show ordB N = decide (0 < N.trans.length) by rw [ha, hn]; rfl)
        clear ha hn
        go_wp2_with fail
        refine (Wrong_calls _ N _ (hN'.gr (box_gr hgr))).mono ?_
        rw [e1]; rintro _ w1 ⟨rfl, g1⟩
        have B1 := cell_gr B1 g1
        go_wp2_with fail
        go_ret
        exact ⟨ret_bool (by rw [HC.out]), by (repeat (first | exact Gr.refl _ | assumption | apply Gr.alloc | apply Gr.drew | apply Gr.drewN | refine Gr.trans ?_ (by assumption)))⟩
end Go.Proofs.Ytmigejcejnofiaa
