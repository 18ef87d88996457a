/- Contracts of net.Run and net.Enabled: what each call answers at any net, marking and sequence that read as data; nothing that lay there turns. -/
import Derived.Test.YtelfbfjegmncaaaNet2
namespace Go.Proofs.Ytelfbfjegmncaaa
open Go.RowKit Go.Tok
set_option linter.unusedVariables false

set_option maxHeartbeats 2000000 in
theorem Run_own (v u z : Value) (N : NetD) (m seq : List Int) (w : World) (hN : NetR w v N) (hu : Ints w u m) (hz : Ints w z seq) :
    Calls Try.prog 29 #[v, u, z] w (RetIO 3 w (runF N m seq)) := by
  have hN' := hN
  obtain ⟨a, cap, rfl, hnl, hncap, hpl, hT⟩ := hN.open_
  have hpl1 := hpl.1
  have hpl2 := hpl.2
  obtain ⟨za, zc, rfl, zl, zl'⟩ := hz.len
  cases hfit : fitsB N m
  · have HC := Lib.hid (runF_unfit (s := seq) hfit)
    have e1 := fitsC_no hfit
    clear hfit
    go_enter Try.func29, Try.ntmps29
    go_wp2_with fail
    refine (fits_calls _ _ N m _ (hN.alloc _) (hu.alloc _)).mono ?_
    rw [e1]; rintro _ w1 ⟨rfl, g1⟩
    go_wp2_with fail
    go_ret2
    exact RetIO.nil HC.out (by (repeat (first | exact Gr.refl _ | assumption | apply Gr.alloc | apply Gr.drew | apply Gr.drewN | refine Gr.trans ?_ (by assumption))))
  have e1 := fitsC_yes hfit
  obtain ⟨s1, s2, s3, s4, s5, s6, s7⟩ := fits_sizes hfit
  clear s5
  have HC := Lib.hid (runF_fit (s := seq) hfit)
  clear hfit
  go_enter Try.func29, Try.ntmps29
  go_wp2_with fail
  refine (fits_calls _ _ N m _ (hN.alloc _) (hu.alloc _)).mono ?_
  rw [e1]; rintro _ w1 ⟨rfl, g1⟩
  go_wp2_with fail
  refine (Clone_calls _ m _ (hu.gr (box_gr g1)) (by omega)).mono ?_
  rintro _ w2 ⟨v2, rfl, i2, g2⟩
  go_wp2_with fail
  go_loopw [1, 23] (fun sm i wr => ∃ (k : Nat) (x : List Int), k ≤ seq.length ∧ i = .int .i64 k ∧ OwnI 3 w.heap.size wr sm x ∧ RunUpto N m seq k x ∧ Gr (w.alloc (.cells #[.int .i64 N.places, .slice a N.trans.length cap] 28)) wr) (fun _ i _ => seq.length - (intOf i).toNat)
  case atStart => exact ⟨0, m, Nat.zero_le _, rfl, i2.lower (Gr.le (show Gr w w1 from by (repeat (first | exact Gr.refl _ | assumption | apply Gr.alloc | apply Gr.drew | apply Gr.drewN | refine Gr.trans ?_ (by assumption))))), RunUpto.zero _ _ _, by (repeat (first | exact Gr.refl _ | assumption | apply Gr.alloc | apply Gr.drew | apply Gr.drewN | refine Gr.trans ?_ (by assumption)))⟩
  case round =>
    rename_i wr _
    obtain ⟨k, x, hk, rfl, hx, hrun, hgr⟩ := hrel
    have B0 := box_cell hgr (i := 0) rfl
    have B1 := box_cell hgr (i := 1) rfl
    have Bl := box_lt hgr
    have hgr0 := box_gr hgr
    by_cases hlt : k < seq.length
    · obtain ⟨b, o, rfl, hcell⟩ := (hz.gr hgr0).cell hlt
      have hr := hz.range k
      rcases hf : fireF N x (nth seq k) with ⟨y, e⟩
      have HF := Lib.hid hf
      clear hf
      have hN'' := hN'.gr hgr0
      by_cases he : e = 0
      · subst he
        go_wp2_with fail
        refine (Fire_own _ _ N x _ _ hN'' hx.ints hr).mono ?_
        rw [HF.out]; rintro _ w3 ⟨v3, rfl, i3, g3⟩
        go_wp2_with fail
        go_roundw
        case rel => exact ⟨k + 1, y, by omega, by go_num, i3.lower (Gr.le hgr0), hrun.succ hlt HF.out, by (repeat (first | exact Gr.refl _ | assumption | apply Gr.alloc | apply Gr.drew | apply Gr.drewN | refine Gr.trans ?_ (by assumption)))⟩
        case measure => simp [intOf]; omega
      · have q1 : (e != 0) = true := by simpa using he
        have HE := Lib.hid (hrun.err hlt HF.out he)
        clear he
        go_wp2_with fail
        refine (Fire_own _ _ N x _ _ hN'' hx.ints hr).mono ?_
        rw [HF.out]; rintro _ w3 ⟨v3, rfl, i3, g3⟩
        go_wp2_with fail
        go_ret2
        exact RetIO.nil (HC.out.trans HE.out) (by (repeat (first | exact Gr.refl _ | assumption | apply Gr.alloc | apply Gr.drew | apply Gr.drewN | refine Gr.trans ?_ (by assumption))))
    · have HE := Lib.hid (hrun.done (by omega))
      go_wp2_with fail
      go_ret2
      exact RetIO.mk (HC.out.trans HE.out) hx (Nat.le_refl _) (by (repeat (first | exact Gr.refl _ | assumption | apply Gr.alloc | apply Gr.drew | apply Gr.drewN | refine Gr.trans ?_ (by assumption))))

theorem Run_calls (v u z : Value) (N : NetD) (m seq : List Int) (w : World) (hN : NetR w v N) (hu : Ints w u m) (hz : Ints w z seq) :
    Calls Try.prog 29 #[v, u, z] w (RetIE w (runF N m seq)) := (Run_own v u z N m seq w hN hu hz).mono fun _ _ h => h.ie

set_option maxHeartbeats 2000000 in
theorem Enabled_own (v u : Value) (N : NetD) (m : List Int) (w : World) (hN : NetR w v N) (hu : Ints w u m) :
    Calls Try.prog 85 #[v, u] w (RetIO 3 w (enabledF N m)) := by
  have hN' := hN
  have T := intTy
  obtain ⟨a, cap, rfl, hnl, hncap, hpl, hT⟩ := hN.open_
  have hpl1 := hpl.1
  have hpl2 := hpl.2
  cases hfit : fitsB N m
  · have HC := Lib.hid (enabledF_unfit hfit)
    have e1 := fitsC_no hfit
    clear hfit
    go_enter Try.func85, Try.ntmps85
    go_wp2_with fail
    refine (fits_calls _ _ N m _ (hN.alloc _) (hu.alloc _)).mono ?_
    rw [e1]; rintro _ w1 ⟨rfl, g1⟩
    go_wp2_with fail
    go_ret2
    exact RetIO.nil HC.out (by (repeat (first | exact Gr.refl _ | assumption | apply Gr.alloc | apply Gr.drew | apply Gr.drewN | refine Gr.trans ?_ (by assumption))))
  have e1 := fitsC_yes hfit
  obtain ⟨s1, s2, s3, s4, s5, s6, s7⟩ := fits_sizes hfit
  clear s5
  have HC := Lib.hid (enabledF_fit hfit)
  clear hfit
  go_enter Try.func85, Try.ntmps85
  go_wp2_with fail
  refine (fits_calls _ _ N m _ (hN.alloc _) (hu.alloc _)).mono ?_
  rw [e1]; rintro _ w1 ⟨rfl, g1⟩
  have B0 := box_cell g1 (i := 0) rfl
  have B1 := box_cell g1 (i := 1) rfl
  have Bl := box_lt g1
  go_wp2_with fail
  clear B0 B1 Bl
  go_loopw [7, 19] (fun out i wr => ∃ k : Nat, k ≤ N.trans.length ∧ i = .int .i64 k ∧ OwnI 3 w1.heap.size wr out (enUpto N m k) ∧ Gr w1 wr) (fun _ i _ => N.trans.length - (intOf i).toNat)
  case atStart => exact ⟨0, Nat.zero_le _, rfl, by rw [enUpto_zero]; exact OwnI.nil _ _ _, Gr.refl _⟩
  case round =>
    rename_i wr _
    obtain ⟨k, hk, rfl, ho, hgr⟩ := hrel
    have g2 := g1.trans hgr
    have hgr0 := box_gr g2
    by_cases hlt : k < N.trans.length
    · obtain ⟨b, o, vp, vq, rfl, c0, c1, c2, hlab, hp, hq⟩ := (hT.gr hgr0).at_ hlt
      have hu2 := hu.gr hgr0
      obtain ⟨pa, pc, rfl, pl, pl'⟩ := hp.len
      obtain ⟨qa, qc, rfl, ql, ql'⟩ := hq.len
      cases hc : coversB m (N.tr k).pre
      · have HU := Lib.hid (enUpto_no hc)
        go_wp2_with (go_at_call 116; refine (Covers_calls _ _ _ _ _ (hu2.alloc _) (hp.alloc _)).mono ?_; rintro e w' ⟨rfl, rfl⟩)
        go_roundw
        case rel => exact ⟨k + 1, by omega, by go_num, by rw [HU.out]; exact ho.alloc _, by (repeat (first | exact Gr.refl _ | assumption | apply Gr.alloc | apply Gr.drew | apply Gr.drewN | refine Gr.trans ?_ (by assumption)))⟩
        case measure => simp [intOf]; omega
      · have HU := Lib.hid (enUpto_yes hc)
        have hel := enUpto_len N m k
        go_wp2_with fail
        refine (Covers_calls _ _ _ _ _ (hu2.alloc _) (hp.alloc _)).mono ?_
        rw [hc]; rintro _ _ ⟨rfl, rfl⟩
        go_wp2_with (at_builtin; refine app_int T _ _ w1.heap.size _ (enUpto N m k) ⟨wr.heap.size + 1, 0, none⟩ k rfl rfl (by rfl) (by rfl) ((ho.alloc _).alloc _) (lit_cell (by simp)) (i64_nat (by omega)) (by omega) (Gr.le (by (repeat (first | exact Gr.refl _ | assumption | apply Gr.alloc | apply Gr.drew | apply Gr.drewN | refine Gr.trans ?_ (by assumption))))) ?_; intro v' w' ho' hg' _ _)
        go_roundw
        case rel => exact ⟨k + 1, by omega, by go_num, by rw [HU.out]; exact ho', hg' w1 (Nat.le_refl _) (by (repeat (first | exact Gr.refl _ | assumption | apply Gr.alloc | apply Gr.drew | apply Gr.drewN | refine Gr.trans ?_ (by assumption))))⟩
        case measure => simp [intOf]; omega
    · obtain rfl : k = N.trans.length := by omega
      go_wp2_with fail
      go_ret2
      exact RetIO.mk HC.out (by rw [← enUpto_all]; exact ho) (Gr.le (show Gr w w1 from by (repeat (first | exact Gr.refl _ | assumption | apply Gr.alloc | apply Gr.drew | apply Gr.drewN | refine Gr.trans ?_ (by assumption))))) (by (repeat (first | exact Gr.refl _ | assumption | apply Gr.alloc | apply Gr.drew | apply Gr.drewN | refine Gr.trans ?_ (by assumption))))
theorem Enabled_calls (v u : Value) (N : NetD) (m : List Int) (w : World) (hN : NetR w v N) (hu : Ints w u m) :
    Calls Try.prog 85 #[v, u] w (RetIE w (enabledF N m)) := (Enabled_own v u N m w hN hu).mono fun _ _ h => h.ie
end Go.Proofs.Ytelfbfjegmncaaa
