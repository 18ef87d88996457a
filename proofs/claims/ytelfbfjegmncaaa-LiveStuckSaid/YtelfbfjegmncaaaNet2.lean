/- Contracts of net.fits, net.Fire, net.Run, net.Enabled: what each call answers at any net, marking and sequence that read as data (lists of at most 17592186043904 elements); nothing that lay there turns. -/
import Derived.Test.YtelfbfjegmncaaaNet
import Derived.Test.YtelfbfjegmncaaaSl
namespace Go.Proofs.Ytelfbfjegmncaaa
open Go.RowKit Go.Tok
set_option linter.unusedVariables false


set_option maxHeartbeats 1000000 in
theorem fits_calls (v u : Value) (N : NetD) (m : List Int) (w : World) (hN : NetR w v N) (hu : Ints w u m) :
    Calls Try.prog 76 #[v, u] w fun e w' => e = .returned (.int .i64 (fitsC N m)) ∧ Gr w w' := by
  obtain ⟨a, cap, rfl, hnl, hncap, hpl, hT⟩ := hN.open_
  have hpl1 := hpl.1
  have hpl2 := hpl.2
  obtain ⟨ua, uc, rfl, ul, ul'⟩ := hu.len
  rcases fits_cases N m with ⟨h, h1, h2, h3⟩ | ⟨h, h1 | ⟨h1, h2⟩ | ⟨h1, h2, h3⟩⟩
  · have HC := Lib.hid (fitsC_yes h)
    have e1 := wrongC_yes h1
    have m1 : ((m.length : Int) != N.places) = false := by simp [h2]
    clear h2
    go_enter Try.func76, Try.ntmps76
    go_wp2_with fail
    refine (Wrong_calls _ N _ (hN.alloc _)).mono ?_
    rw [e1]; rintro _ w1 ⟨rfl, g1⟩
    have B0 := box_cell g1 (i := 0) rfl
    have B1 := box_cell g1 (i := 1) rfl
    have Bl := box_lt g1
    go_wp2_with fail
    refine (Right_calls _ m _ ((hu.alloc _).gr g1)).mono ?_
    rw [h3]; rintro _ _ ⟨rfl, rfl⟩
    go_wp2_with fail
    go_ret
    exact ⟨ret_i64 HC.out.symm, by (repeat (first | exact Gr.refl _ | assumption | apply Gr.alloc | apply Gr.drew | apply Gr.drewN | refine Gr.trans ?_ (by assumption)))⟩
  · have HC := Lib.hid (fitsC_no h)
    have e1 := wrongC_no h1
    go_enter Try.func76, Try.ntmps76
    go_wp2_with fail
    refine (Wrong_calls _ N _ (hN.alloc _)).mono ?_
    rw [e1]; rintro _ w1 ⟨rfl, g1⟩
    go_wp2_with fail
    go_ret
    exact ⟨ret_i64 HC.out.symm, by (repeat (first | exact Gr.refl _ | assumption | apply Gr.alloc | apply Gr.drew | apply Gr.drewN | refine Gr.trans ?_ (by assumption)))⟩
  · have HC := Lib.hid (fitsC_no h)
    have e1 := wrongC_yes h1
    go_enter Try.func76, Try.ntmps76
    go_wp2_with fail
    refine (Wrong_calls _ N _ (hN.alloc _)).mono ?_
    rw [e1]; rintro _ w1 ⟨rfl, g1⟩
    have B0 := box_cell g1 (i := 0) rfl
    have B1 := box_cell g1 (i := 1) rfl
    have Bl := box_lt g1
    go_wp2_with fail
    go_ret
    exact ⟨ret_i64 HC.out.symm, by (repeat (first | exact Gr.refl _ | assumption | apply Gr.alloc | apply Gr.drew | apply Gr.drewN | refine Gr.trans ?_ (by assumption)))⟩
  · have HC := Lib.hid (fitsC_no h)
    have e1 := wrongC_yes h1
    have m1 : ((m.length : Int) != N.places) = false := by simp [h2]
    clear h2
    go_enter Try.func76, Try.ntmps76
    go_wp2_with fail
    refine (Wrong_calls _ N _ (hN.alloc _)).mono ?_
    rw [e1]; rintro _ w1 ⟨rfl, g1⟩
    have B0 := box_cell g1 (i := 0) rfl
    have B1 := box_cell g1 (i := 1) rfl
    have Bl := box_lt g1
    go_wp2_with fail
    refine (Right_calls _ m _ ((hu.alloc _).gr g1)).mono ?_
    rw [h3]; rintro _ _ ⟨rfl, rfl⟩
    go_wp2_with fail
    go_ret
    exact ⟨ret_i64 HC.out.symm, by (repeat (first | exact Gr.refl _ | assumption | apply Gr.alloc | apply Gr.drew | apply Gr.drewN | refine Gr.trans ?_ (by assumption)))⟩

set_option maxHeartbeats 1000000 in
theorem Fire_own (v u : Value) (N : NetD) (m : List Int) (t : Int) (w : World) (hN : NetR w v N) (hu : Ints w u m) (ht : I64 t) :
    Calls Try.prog 32 #[v, u, .int .i64 t] w (RetIO 3 w (fireF N m t)) := by
  obtain ⟨a, cap, rfl, hnl, hncap, hpl, hT⟩ := hN.open_
  have hpl1 := hpl.1
  have hpl2 := hpl.2
  cases hfit : fitsB N m
  · have HC := Lib.hid (fireF_unfit (t := t) hfit)
    have e1 := fitsC_no hfit
    clear hfit
    go_enter Try.func32, Try.ntmps32
    go_wp2_with fail
    refine (fits_calls _ _ N m _ (hN.alloc _) (hu.alloc _)).mono ?_
    rw [e1]; rintro _ w1 ⟨rfl, g1⟩
    go_wp2_with fail
    go_ret2
    exact RetIO.nil HC.out (by (repeat (first | exact Gr.refl _ | assumption | apply Gr.alloc | apply Gr.drew | apply Gr.drewN | refine Gr.trans ?_ (by assumption))))
  have e1 := fitsC_yes hfit
  obtain ⟨s1, s2, s3, s4, s5, s6, s7⟩ := fits_sizes hfit
  clear s5
  have t1 := ht.1
  have t2 := ht.2
  by_cases h0 : t < 0
  · have HC := Lib.hid (fireF_range hfit (.inl h0))
    go_enter Try.func32, Try.ntmps32
    go_wp2_with fail
    refine (fits_calls _ _ N m _ (hN.alloc _) (hu.alloc _)).mono ?_
    rw [e1]; rintro _ w1 ⟨rfl, g1⟩
    have B0 := box_cell g1 (i := 0) rfl
    have B1 := box_cell g1 (i := 1) rfl
    have Bl := box_lt g1
    go_wp2_with fail
    go_ret2
    exact RetIO.nil HC.out (by (repeat (first | exact Gr.refl _ | assumption | apply Gr.alloc | apply Gr.drew | apply Gr.drewN | refine Gr.trans ?_ (by assumption))))
  by_cases h1 : (N.trans.length : Int) ≤ t
  · have HC := Lib.hid (fireF_range hfit (.inr h1))
    have h0' : 0 ≤ t := by omega
    go_enter Try.func32, Try.ntmps32
    go_wp2_with fail
    refine (fits_calls _ _ N m _ (hN.alloc _) (hu.alloc _)).mono ?_
    rw [e1]; rintro _ w1 ⟨rfl, g1⟩
    have B0 := box_cell g1 (i := 0) rfl
    have B1 := box_cell g1 (i := 1) rfl
    have Bl := box_lt g1
    go_wp2_with fail
    go_ret2
    exact RetIO.nil HC.out (by (repeat (first | exact Gr.refl _ | assumption | apply Gr.alloc | apply Gr.drew | apply Gr.drewN | refine Gr.trans ?_ (by assumption))))
  obtain ⟨k, rfl⟩ := Int.eq_ofNat_of_zero_le (show 0 ≤ t by omega)
  have hk : k < N.trans.length := by omega
  obtain ⟨b, o, vp, vq, rfl, c0, c1, c2, hlab, hp, hq⟩ := hT.at_ hk
  have F := netOk_tr s7 hk
  have lp : (N.tr k).pre.length ≤ 16 := by have := F.pre; omega
  have lq : (N.tr k).post.length ≤ 16 := by have := F.post; omega
  have HF := Lib.hid F
  clear F h0 h1
  rcases hz : zipF minusf m (N.tr k).pre with ⟨L, e⟩
  have lL : L.length ≤ 16 := by have := zip_len minusf m (N.tr k).pre; rw [hz] at this; simp only [] at this; omega
  have HZ := Lib.hid hz
  by_cases he : e = 0
  · subst he
    have HC := Lib.hid (fireF_ok hfit hk hz)
    clear hz hfit
    go_enter Try.func32, Try.ntmps32
    go_wp2_with fail
    refine (fits_calls _ _ N m _ (hN.alloc _) (hu.alloc _)).mono ?_
    rw [e1]; rintro _ w1 ⟨rfl, g1⟩
    have B0 := box_cell g1 (i := 0) rfl
    have B1 := box_cell g1 (i := 1) rfl
    have Bl := box_lt g1
    have C1 := cell_gr c1 (box_gr g1)
    have C2 := cell_gr c2 (box_gr g1)
    go_wp2_with fail
    refine (Minus_calls _ _ m (N.tr k).pre _ (hu.gr (box_gr g1)) (hp.gr (box_gr g1)) (by omega) (by omega)).mono ?_
    rw [HZ.out]; rintro _ w2 ⟨v2, rfl, i2, g2⟩
    have B0' := cell_gr B0 g2
    have B1' := cell_gr B1 g2
    have C1' := cell_gr C1 g2
    have C2' := cell_gr C2 g2
    clear B0 B1 C1 C2
    go_wp2_with fail
    refine (Plus_own _ _ L (N.tr k).post _ i2 ((hq.gr (box_gr g1)).gr g2) (by omega) (by omega)).mono ?_
    rintro _ w3 ⟨v3, rfl, i3, g3⟩
    go_wp2_with fail
    go_ret2
    exact RetIO.mk HC.out i3 (Gr.le (show Gr w w2 from by (repeat (first | exact Gr.refl _ | assumption | apply Gr.alloc | apply Gr.drew | apply Gr.drewN | refine Gr.trans ?_ (by assumption))))) (by (repeat (first | exact Gr.refl _ | assumption | apply Gr.alloc | apply Gr.drew | apply Gr.drewN | refine Gr.trans ?_ (by assumption))))
  · have HC := Lib.hid (fireF_not hfit hk hz he)
    have q1 : (e != 0) = true := by simpa using he
    clear hz hfit he
    go_enter Try.func32, Try.ntmps32
    go_wp2_with fail
    refine (fits_calls _ _ N m _ (hN.alloc _) (hu.alloc _)).mono ?_
    rw [e1]; rintro _ w1 ⟨rfl, g1⟩
    have B0 := box_cell g1 (i := 0) rfl
    have B1 := box_cell g1 (i := 1) rfl
    have Bl := box_lt g1
    have C1 := cell_gr c1 (box_gr g1)
    go_wp2_with fail
    refine (Minus_calls _ _ m (N.tr k).pre _ (hu.gr (box_gr g1)) (hp.gr (box_gr g1)) (by omega) (by omega)).mono ?_
    rw [HZ.out]; rintro _ w2 ⟨v2, rfl, i2, g2⟩
    go_wp2_with fail
    go_ret2
    exact RetIO.nil HC.out (by (repeat (first | exact Gr.refl _ | assumption | apply Gr.alloc | apply Gr.drew | apply Gr.drewN | refine Gr.trans ?_ (by assumption))))
theorem Fire_calls (v u : Value) (N : NetD) (m : List Int) (t : Int) (w : World) (hN : NetR w v N) (hu : Ints w u m) (ht : I64 t) :
    Calls Try.prog 32 #[v, u, .int .i64 t] w (RetIE w (fireF N m t)) := (Fire_own v u N m t w hN hu ht).mono fun _ _ h => h.ie
end Go.Proofs.Ytelfbfjegmncaaa
