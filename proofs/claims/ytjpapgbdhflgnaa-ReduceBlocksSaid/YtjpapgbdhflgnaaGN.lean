/- Contracts of the functions of package net: what each call answers at any net that reads as data; nothing that lay there turns. -/
import Derived.Test.YtjpapgbdhflgnaaGM
import Derived.Test.YtjpapgbdhflgnaaPA
import Derived.Deep.RegionHeld3
import Derived.Test.YtjpapgbdhflgnaaPC
namespace Go.Proofs.Ytjpapgbdhflgnaa
open Go.RowKit Go.Tok
set_option linter.unusedVariables false

theorem Wrong1_answers : Answers Try.prog 55 #[] badW := by
  intro W x hx
  by_cases h : x < 0
  · go_enter Try.func55, Try.ntmps55
    go_wp2
    go_ret
    exact ⟨ret_bool (by rw [badW_def]; simp [h]), rfl⟩
  · have h : 0 ≤ x := by omega
    go_enter Try.func55, Try.ntmps55
    go_wp2
    all_goals go_ret
    all_goals exact ⟨ret_bool (by rw [badW_def, Bool.eq_iff_iff]; simp; omega), rfl⟩

set_option maxHeartbeats 4000000 in
theorem Wrong_calls (v : Value) (N : NetD) (w : World) (hN : NetR w v N) :
    Calls Try.prog 25 #[v] w fun e w' => e = .returned (.int .i64 (wrongC N)) ∧ Gr w w' := by
  obtain ⟨a, cap, rfl, hl, hcap, hpl, hT⟩ := hN.open_
  have hpl1 := hpl.1
  have hpl2 := hpl.2
  have eg : ∀ args w, (callFunc 55 args).run Try.prog w = .ok (.enter 55 args) w := (Go.Proofs.enters_of Try.func55 (by kernel_rfl) rfl)
  by_cases h0 : N.places < 0
  · go_enter Try.func25, Try.ntmps25
    go_wp2
    go_ret
    exact ⟨ret_i64 (wrong_head (.inl h0)).symm, by (repeat (first | exact Gr.refl _ | assumption | apply Gr.alloc | apply Gr.drew | apply Gr.drewN | refine Gr.trans ?_ (by assumption)))⟩
  by_cases h1 : 16 < N.places
  · have h0' : 0 ≤ N.places := by omega
    go_enter Try.func25, Try.ntmps25
    go_wp2
    go_ret
    exact ⟨ret_i64 (wrong_head (.inr (.inl h1))).symm, by (repeat (first | exact Gr.refl _ | assumption | apply Gr.alloc | apply Gr.drew | apply Gr.drewN | refine Gr.trans ?_ (by assumption)))⟩
  by_cases h2 : 24 < N.trans.length
  · have h0' : 0 ≤ N.places := by omega
    have h1' : N.places ≤ 16 := by omega
    go_enter Try.func25, Try.ntmps25
    go_wp2
    go_ret
    exact ⟨ret_i64 (wrong_head (.inr (.inr h2))).symm, by (repeat (first | exact Gr.refl _ | assumption | apply Gr.alloc | apply Gr.drew | apply Gr.drewN | refine Gr.trans ?_ (by assumption)))⟩
  have h0' : 0 ≤ N.places := by omega
  have h1' : N.places ≤ 16 := by omega
  have h2' : N.trans.length ≤ 24 := by omega
  clear h0 h1 h2
  go_enter Try.func25, Try.ntmps25
  go_wp2
  go_loopw [23] (fun i wr => ∃ k : Nat, k ≤ N.trans.length ∧ i = .int .i64 k ∧ TransOk N k ∧ Gr (w.alloc (.cells #[.int .i64 N.places, .slice a N.trans.length cap] 28)) wr) (fun i _ => N.trans.length - (intOf i).toNat)
  case atStart => exact ⟨0, Nat.zero_le _, rfl, TransOk.zero _, Gr.refl _⟩
  case round =>
    rename_i wr _
    obtain ⟨k, hk, rfl, hall, hgr⟩ := hrel
    have B0 := box_cell hgr (i := 0) rfl
    have B1 := box_cell hgr (i := 1) rfl
    have Bl := box_lt hgr
    have hgr0 := box_gr hgr
    by_cases hlt : k < N.trans.length
    · obtain ⟨b, o, vp, vq, rfl, c0, c1, c2, hlab, hp, hq⟩ := (hT.gr ((Gr.refl _).alloc _)).gr hgr |>.at_ hlt
      have hlab1 := hlab.1
      have hlab2 := hlab.2
      rcases tran_cases N.places (N.tr k) with ⟨hok, t1, t2, t3, t4, t5, t6⟩ | ⟨hbad, hh⟩
      · obtain ⟨pa, pc, rfl, pl, pl'⟩ := hp.len
        obtain ⟨qa, qc, rfl, ql, ql'⟩ := hq.len
        have m1 : (((N.tr k).pre.length : Int) != N.places) = false := by simp [t3]
        have m2 : (((N.tr k).post.length : Int) != N.places) = false := by simp [t4]
        clear t3 t4
        go_wp2_with (go_at_call 56; refine (ContainsFunc_calls _ _ _ _ _ _ eg (by first | exact hp.alloc _ | exact hq.alloc _) Wrong1_answers).mono ?_; rintro e w' ⟨rfl, rfl⟩)
        go_roundw
        case rel => exact ⟨k + 1, by omega, by go_num, hall.succ hok, by (repeat (first | exact Gr.refl _ | assumption | apply Gr.alloc | apply Gr.drew | apply Gr.drewN | refine Gr.trans ?_ (by assumption)))⟩
        case measure => simp [intOf]; omega
      · have hw := wrong_tran hlt hbad
        have HW := Lib.hid hw
        clear hw
        obtain ⟨pa, pc, rfl, pl, pl'⟩ := hp.len
        obtain ⟨qa, qc, rfl, ql, ql'⟩ := hq.len
        have m1 : ∀ h : ((N.tr k).pre.length : Int) = N.places, (((N.tr k).pre.length : Int) != N.places) = false := fun h => by simp [h]
        have m2 : ∀ h : ((N.tr k).post.length : Int) = N.places, (((N.tr k).post.length : Int) != N.places) = false := fun h => by simp [h]
        rcases hh with t1 | ⟨t1, t2⟩ | ⟨t1, t2, t3⟩ | ⟨t1, t2, t3, t4⟩ | ⟨t1, t2, t3, t4, t5⟩ | ⟨t1, t2, t3, t4, t5, t6⟩
        · go_wp2
          go_ret
          exact ⟨ret_i64 HW.out.symm, by (repeat (first | exact Gr.refl _ | assumption | apply Gr.alloc | apply Gr.drew | apply Gr.drewN | refine Gr.trans ?_ (by assumption)))⟩
        · go_wp2
          go_ret
          exact ⟨ret_i64 HW.out.symm, by (repeat (first | exact Gr.refl _ | assumption | apply Gr.alloc | apply Gr.drew | apply Gr.drewN | refine Gr.trans ?_ (by assumption)))⟩
        · clear m1 m2
          go_wp2
          go_ret
          exact ⟨ret_i64 HW.out.symm, by (repeat (first | exact Gr.refl _ | assumption | apply Gr.alloc | apply Gr.drew | apply Gr.drewN | refine Gr.trans ?_ (by assumption)))⟩
        · have m1 := m1 t3
          clear m2 t3
          go_wp2
          go_ret
          exact ⟨ret_i64 HW.out.symm, by (repeat (first | exact Gr.refl _ | assumption | apply Gr.alloc | apply Gr.drew | apply Gr.drewN | refine Gr.trans ?_ (by assumption)))⟩
        · have m1 := m1 t3
          have m2 := m2 t4
          clear t3 t4
          go_wp2_with (go_at_call 56; refine (ContainsFunc_calls _ _ _ _ _ _ eg (by first | exact hp.alloc _ | exact hq.alloc _) Wrong1_answers).mono ?_; rintro e w' ⟨rfl, rfl⟩)
          go_ret
          exact ⟨ret_i64 HW.out.symm, by (repeat (first | exact Gr.refl _ | assumption | apply Gr.alloc | apply Gr.drew | apply Gr.drewN | refine Gr.trans ?_ (by assumption)))⟩
        · have m1 := m1 t3
          have m2 := m2 t4
          clear t3 t4
          go_wp2_with (go_at_call 56; refine (ContainsFunc_calls _ _ _ _ _ _ eg (by first | exact hp.alloc _ | exact hq.alloc _) Wrong1_answers).mono ?_; rintro e w' ⟨rfl, rfl⟩)
          go_ret
          exact ⟨ret_i64 HW.out.symm, by (repeat (first | exact Gr.refl _ | assumption | apply Gr.alloc | apply Gr.drew | apply Gr.drewN | refine Gr.trans ?_ (by assumption)))⟩
    · have hw := hall.all (by omega) h0' h1' h2'
      have HW := Lib.hid hw
      clear hw
      go_wp2
      go_ret
      exact ⟨ret_i64 HW.out.symm, by (repeat (first | exact Gr.refl _ | assumption | apply Gr.alloc | apply Gr.drew | apply Gr.drewN | refine Gr.trans ?_ (by assumption)))⟩
end Go.Proofs.Ytjpapgbdhflgnaa

/- Contracts of net.fits, net.Fire, net.Run, net.Enabled: what each call answers at any net, marking and sequence that read as data (lists of at most 17592186043904 elements); nothing that lay there turns. -/
namespace Go.Proofs.Ytjpapgbdhflgnaa
open Go.RowKit Go.Tok
set_option linter.unusedVariables false


set_option maxHeartbeats 1000000 in
theorem fits_calls (v u : Value) (N : NetD) (m : List Int) (w : World) (hN : NetR w v N) (hu : Ints w u m) :
    Calls Try.prog 73 #[v, u] w fun e w' => e = .returned (.int .i64 (fitsC N m)) ∧ Gr w w' := by
  obtain ⟨a, cap, rfl, hnl, hncap, hpl, hT⟩ := hN.open_
  have hpl1 := hpl.1
  have hpl2 := hpl.2
  obtain ⟨ua, uc, rfl, ul, ul'⟩ := hu.len
  rcases fits_cases N m with ⟨h, h1, h2, h3⟩ | ⟨h, h1 | ⟨h1, h2⟩ | ⟨h1, h2, h3⟩⟩
  · have HC := Lib.hid (fitsC_yes h)
    have e1 := wrongC_yes h1
    have m1 : ((m.length : Int) != N.places) = false := by simp [h2]
    clear h2
    go_enter Try.func73, Try.ntmps73
    go_wp2_with fail
    refine (Wrong_calls _ N _ (hN.alloc _)).mono ?_
    rw [e1]; rintro _ w1 ⟨rfl, g1⟩
    have B0 := box_cell g1 (i := 0) rfl
    have B1 := box_cell g1 (i := 1) rfl
    have Bl := box_lt g1
    go_wp2_with fail
    refine (Right_calls _ m _ ((hu.alloc _).gr g1)).mono ?_
    rw [h3]; rintro _ _ ⟨rfl, rfl⟩
    go_wp2_with fail
    go_ret
    exact ⟨ret_i64 HC.out.symm, by (repeat (first | exact Gr.refl _ | assumption | apply Gr.alloc | apply Gr.drew | apply Gr.drewN | refine Gr.trans ?_ (by assumption)))⟩
  · have HC := Lib.hid (fitsC_no h)
    have e1 := wrongC_no h1
    go_enter Try.func73, Try.ntmps73
    go_wp2_with fail
    refine (Wrong_calls _ N _ (hN.alloc _)).mono ?_
    rw [e1]; rintro _ w1 ⟨rfl, g1⟩
    go_wp2_with fail
    go_ret
    exact ⟨ret_i64 HC.out.symm, by (repeat (first | exact Gr.refl _ | assumption | apply Gr.alloc | apply Gr.drew | apply Gr.drewN | refine Gr.trans ?_ (by assumption)))⟩
  · have HC := Lib.hid (fitsC_no h)
    have e1 := wrongC_yes h1
    go_enter Try.func73, Try.ntmps73
    go_wp2_with fail
    refine (Wrong_calls _ N _ (hN.alloc _)).mono ?_
    rw [e1]; rintro _ w1 ⟨rfl, g1⟩
    have B0 := box_cell g1 (i := 0) rfl
    have B1 := box_cell g1 (i := 1) rfl
    have Bl := box_lt g1
    go_wp2_with fail
    go_ret
    exact ⟨ret_i64 HC.out.symm, by (repeat (first | exact Gr.refl _ | assumption | apply Gr.alloc | apply Gr.drew | apply Gr.drewN | refine Gr.trans ?_ (by assumption)))⟩
  · have HC := Lib.hid (fitsC_no h)
    have e1 := wrongC_yes h1
    have m1 : ((m.length : Int) != N.places) = false := by simp [h2]
    clear h2
    go_enter Try.func73, Try.ntmps73
    go_wp2_with fail
    refine (Wrong_calls _ N _ (hN.alloc _)).mono ?_
    rw [e1]; rintro _ w1 ⟨rfl, g1⟩
    have B0 := box_cell g1 (i := 0) rfl
    have B1 := box_cell g1 (i := 1) rfl
    have Bl := box_lt g1
    go_wp2_with fail
    refine (Right_calls _ m _ ((hu.alloc _).gr g1)).mono ?_
    rw [h3]; rintro _ _ ⟨rfl, rfl⟩
    go_wp2_with fail
    go_ret
    exact ⟨ret_i64 HC.out.symm, by (repeat (first | exact Gr.refl _ | assumption | apply Gr.alloc | apply Gr.drew | apply Gr.drewN | refine Gr.trans ?_ (by assumption)))⟩

set_option maxHeartbeats 1000000 in
theorem Fire_own (v u : Value) (N : NetD) (m : List Int) (t : Int) (w : World) (hN : NetR w v N) (hu : Ints w u m) (ht : I64 t) :
    Calls Try.prog 75 #[v, u, .int .i64 t] w (RetIO 3 w (fireF N m t)) := by
  obtain ⟨a, cap, rfl, hnl, hncap, hpl, hT⟩ := hN.open_
  have hpl1 := hpl.1
  have hpl2 := hpl.2
  cases hfit : fitsB N m
  · have HC := Lib.hid (fireF_unfit (t := t) hfit)
    have e1 := fitsC_no hfit
    clear hfit
    go_enter Try.func75, Try.ntmps75
    go_wp2_with fail
    refine (fits_calls _ _ N m _ (hN.alloc _) (hu.alloc _)).mono ?_
    rw [e1]; rintro _ w1 ⟨rfl, g1⟩
    go_wp2_with fail
    go_ret2
    exact RetIO.nil HC.out (by (repeat (first | exact Gr.refl _ | assumption | apply Gr.alloc | apply Gr.drew | apply Gr.drewN | refine Gr.trans ?_ (by assumption))))
  have e1 := fitsC_yes hfit
  obtain ⟨s1, s2, s3, s4, s5, s6, s7⟩ := fits_sizes hfit
  clear s5
  have t1 := ht.1
  have t2 := ht.2
  by_cases h0 : t < 0
  · have HC := Lib.hid (fireF_range hfit (.inl h0))
    go_enter Try.func75, Try.ntmps75
    go_wp2_with fail
    refine (fits_calls _ _ N m _ (hN.alloc _) (hu.alloc _)).mono ?_
    rw [e1]; rintro _ w1 ⟨rfl, g1⟩
    have B0 := box_cell g1 (i := 0) rfl
    have B1 := box_cell g1 (i := 1) rfl
    have Bl := box_lt g1
    go_wp2_with fail
    go_ret2
    exact RetIO.nil HC.out (by (repeat (first | exact Gr.refl _ | assumption | apply Gr.alloc | apply Gr.drew | apply Gr.drewN | refine Gr.trans ?_ (by assumption))))
  by_cases h1 : (N.trans.length : Int) ≤ t
  · have HC := Lib.hid (fireF_range hfit (.inr h1))
    have h0' : 0 ≤ t := by omega
    go_enter Try.func75, Try.ntmps75
    go_wp2_with fail
    refine (fits_calls _ _ N m _ (hN.alloc _) (hu.alloc _)).mono ?_
    rw [e1]; rintro _ w1 ⟨rfl, g1⟩
    have B0 := box_cell g1 (i := 0) rfl
    have B1 := box_cell g1 (i := 1) rfl
    have Bl := box_lt g1
    go_wp2_with fail
    go_ret2
    exact RetIO.nil HC.out (by (repeat (first | exact Gr.refl _ | assumption | apply Gr.alloc | apply Gr.drew | apply Gr.drewN | refine Gr.trans ?_ (by assumption))))
  obtain ⟨k, rfl⟩ := Int.eq_ofNat_of_zero_le (show 0 ≤ t by omega)
  have hk : k < N.trans.length := by omega
  obtain ⟨b, o, vp, vq, rfl, c0, c1, c2, hlab, hp, hq⟩ := hT.at_ hk
  have F := netOk_tr s7 hk
  have lp : (N.tr k).pre.length ≤ 16 := by have := F.pre; omega
  have lq : (N.tr k).post.length ≤ 16 := by have := F.post; omega
  have HF := Lib.hid F
  clear F h0 h1
  rcases hz : zipF minusf m (N.tr k).pre with ⟨L, e⟩
  have lL : L.length ≤ 16 := by have := zip_len minusf m (N.tr k).pre; rw [hz] at this; simp only [] at this; omega
  have HZ := Lib.hid hz
  by_cases he : e = 0
  · subst he
    have HC := Lib.hid (fireF_ok hfit hk hz)
    clear hz hfit
    go_enter Try.func75, Try.ntmps75
    go_wp2_with fail
    refine (fits_calls _ _ N m _ (hN.alloc _) (hu.alloc _)).mono ?_
    rw [e1]; rintro _ w1 ⟨rfl, g1⟩
    have B0 := box_cell g1 (i := 0) rfl
    have B1 := box_cell g1 (i := 1) rfl
    have Bl := box_lt g1
    have C1 := cell_gr c1 (box_gr g1)
    have C2 := cell_gr c2 (box_gr g1)
    go_wp2_with fail
    refine (Minus_calls _ _ m (N.tr k).pre _ (hu.gr (box_gr g1)) (hp.gr (box_gr g1)) (by omega) (by omega)).mono ?_
    rw [HZ.out]; rintro _ w2 ⟨v2, rfl, i2, g2⟩
    have B0' := cell_gr B0 g2
    have B1' := cell_gr B1 g2
    have C1' := cell_gr C1 g2
    have C2' := cell_gr C2 g2
    clear B0 B1 C1 C2
    go_wp2_with fail
    refine (Plus_own _ _ L (N.tr k).post _ i2 ((hq.gr (box_gr g1)).gr g2) (by omega) (by omega)).mono ?_
    rintro _ w3 ⟨v3, rfl, i3, g3⟩
    go_wp2_with fail
    go_ret2
    exact RetIO.mk HC.out i3 (Gr.le (show Gr w w2 from by (repeat (first | exact Gr.refl _ | assumption | apply Gr.alloc | apply Gr.drew | apply Gr.drewN | refine Gr.trans ?_ (by assumption))))) (by (repeat (first | exact Gr.refl _ | assumption | apply Gr.alloc | apply Gr.drew | apply Gr.drewN | refine Gr.trans ?_ (by assumption))))
  · have HC := Lib.hid (fireF_not hfit hk hz he)
    have q1 : (e != 0) = true := by simpa using he
    clear hz hfit he
    go_enter Try.func75, Try.ntmps75
    go_wp2_with fail
    refine (fits_calls _ _ N m _ (hN.alloc _) (hu.alloc _)).mono ?_
    rw [e1]; rintro _ w1 ⟨rfl, g1⟩
    have B0 := box_cell g1 (i := 0) rfl
    have B1 := box_cell g1 (i := 1) rfl
    have Bl := box_lt g1
    have C1 := cell_gr c1 (box_gr g1)
    go_wp2_with fail
    refine (Minus_calls _ _ m (N.tr k).pre _ (hu.gr (box_gr g1)) (hp.gr (box_gr g1)) (by omega) (by omega)).mono ?_
    rw [HZ.out]; rintro _ w2 ⟨v2, rfl, i2, g2⟩
    go_wp2_with fail
    go_ret2
    exact RetIO.nil HC.out (by (repeat (first | exact Gr.refl _ | assumption | apply Gr.alloc | apply Gr.drew | apply Gr.drewN | refine Gr.trans ?_ (by assumption))))
theorem Fire_calls (v u : Value) (N : NetD) (m : List Int) (t : Int) (w : World) (hN : NetR w v N) (hu : Ints w u m) (ht : I64 t) :
    Calls Try.prog 75 #[v, u, .int .i64 t] w (RetIE w (fireF N m t)) := (Fire_own v u N m t w hN hu ht).mono fun _ _ h => h.ie
end Go.Proofs.Ytjpapgbdhflgnaa

/- Contract of net.Turned: the call answers the net with each transition's lists exchanged, at any net that reads as data with at most 2513169434916 transitions, each list of at most 17592186044416 elements; nothing that lay there turns. -/
namespace Go.Proofs.Ytjpapgbdhflgnaa
open Go.RowKit Go.Tok
set_option linter.unusedVariables false

theorem tranTy : TranTy Try.prog 26 48 := ⟨Try.underlying26, by kernel_rfl⟩

def NetSmall (N : NetD) : Prop := N.trans.length ≤ 2513169434916 ∧ ∀ k, k < N.trans.length → (N.tr k).pre.length ≤ 17592186044416 ∧ (N.tr k).post.length ≤ 17592186044416

set_option maxHeartbeats 4000000 in
set_option maxRecDepth 100000 in
theorem Turned_calls (v : Value) (N : NetD) (w : World) (hN : NetR w v N) (hS : NetSmall N) :
    Calls Try.prog 21 #[v] w fun e w' => ∃ v', e = .returned v' ∧ NetR w' v' (turnN N) ∧ Gr w w' := by
  have hN' := hN
  have T := tranTy
  obtain ⟨a, cap, rfl, hnl, hncap, hpl, hT⟩ := hN.open_
  have hpl1 := hpl.1
  have hpl2 := hpl.2
  have hlen := hS.1
  have HS := Lib.hid hS.2
  clear hS
  go_enter Try.func21, Try.ntmps21
  go_wp2_with fail
  generalize hBX : w.heap.size + 1 + 1 = BX
  generalize hRX : w.heap.size + 1 = RX
  have q1 : w.heap.size < RX := by omega
  have q2 : RX < BX := by omega
  have b0 : Blk (((w.alloc (.cells #[.int .i64 N.places, .slice a N.trans.length cap] 28)).alloc (.cells #[.int .i64 0, .slice none 0 0] 28)).alloc (.cells #[.int .i64 N.places, .slice none 0 0] 28)) BX 28 #[.int .i64 N.places, .slice none 0 0] := Blk.new (by simp; omega)
  have b1 : Blk (((w.alloc (.cells #[.int .i64 N.places, .slice a N.trans.length cap] 28)).alloc (.cells #[.int .i64 0, .slice none 0 0] 28)).alloc (.cells #[.int .i64 N.places, .slice none 0 0] 28)) RX 28 #[.int .i64 0, .slice none 0 0] := (Blk.new (by simp; omega)).gr ((Gr.refl _).alloc _)
  have q3 : BX + 1 ≤ ((((w.alloc (.cells #[.int .i64 N.places, .slice a N.trans.length cap] 28)).alloc (.cells #[.int .i64 0, .slice none 0 0] 28)).alloc (.cells #[.int .i64 N.places, .slice none 0 0] 28))).heap.size := by simp; omega
  have HB := Lib.hid hBX
  have HR := Lib.hid hRX
  clear hBX hRX
  go_loopw [12] (fun i wr => ∃ (k : Nat) (out : Value), k ≤ N.trans.length ∧ i = .int .i64 k ∧ Blk wr BX 28 #[.int .i64 N.places, out] ∧ Blk wr RX 28 #[.int .i64 0, .slice none 0 0] ∧ OwnT 48 (BX + 1) wr out (turnUpto N k) ∧ Gr w wr ∧ BX + 1 ≤ wr.heap.size) (fun i _ => N.trans.length - (intOf i).toNat)
  case atStart => exact ⟨0, _, Nat.zero_le _, rfl, b0, b1, by rw [turnUpto_zero]; exact OwnT.nil _ _ _, by (repeat (first | exact Gr.refl _ | assumption | apply Gr.alloc | apply Gr.drew | apply Gr.drewN | refine Gr.trans ?_ (by assumption))), q3⟩
  case round =>
    rename_i wr _
    obtain ⟨k, out, hk, rfl, hb0, hb1, ho, hgr, hsz⟩ := hrel
    have hlt0 := hb0.lt
    by_cases hlt : k < N.trans.length
    · obtain ⟨b, o, vp, vq, rfl, c0, c1, c2, hlab, hp, hq⟩ := (hT.gr hgr).at_ hlt
      obtain ⟨pa, pc, rfl, pl, pl'⟩ := hp.len
      obtain ⟨qa, qc, rfl, ql, ql'⟩ := hq.len
      obtain ⟨oa, oc, hout⟩ := ho.form
      have hl := turnUpto_len (Nat.le_of_lt hlt)
      rw [hl] at hout
      subst hout
      have HL := Lib.hid hl
      clear hl
      have hsp := HS.out k hlt
      have hsp1 := hsp.1
      have hsp2 := hsp.2
      clear hsp
      go_wp2_with fail
      have bt : Blk (wr.alloc (.cells #[.int .i64 (N.tr k).label, .slice pa (N.tr k).pre.length pc, .slice qa (N.tr k).post.length qc] 48)) wr.heap.size 48 #[.int .i64 (N.tr k).label, .slice pa (N.tr k).pre.length pc, .slice qa (N.tr k).post.length qc] := Blk.new rfl
      have hb0' := hb0.gr ((Gr.refl _).alloc (.cells #[.int .i64 (N.tr k).label, .slice pa (N.tr k).pre.length pc, .slice qa (N.tr k).post.length qc] 48))
      have B1 := hb0'.cell (i := 1) rfl
      have T0 := bt.cell (i := 0) rfl
      have T1 := bt.cell (i := 1) rfl
      have T2 := bt.cell (i := 2) rfl
      have hol := ho.lt
      have HOL := Lib.hid hol
      clear hol
      refine cut14 (S := fun w' => w'.cell? ⟨BX, 1, none⟩ = some (.slice oa k oc) ∧ w'.cell? ⟨wr.heap.size, 0, none⟩ = some (.int .i64 (N.tr k).label) ∧ w'.cell? ⟨wr.heap.size, 1, none⟩ = some (.slice pa (N.tr k).pre.length pc) ∧ w'.cell? ⟨wr.heap.size, 2, none⟩ = some (.slice qa (N.tr k).post.length qc)) (by kernel_rfl) (by kernel_rfl) ⟨cell_gr B1 (by (repeat (first | exact Gr.refl _ | assumption | apply Gr.alloc | apply Gr.drew | apply Gr.drewN | refine Gr.trans ?_ (by assumption)))), cell_gr T0 (by (repeat (first | exact Gr.refl _ | assumption | apply Gr.alloc | apply Gr.drew | apply Gr.drewN | refine Gr.trans ?_ (by assumption)))), cell_gr T1 (by (repeat (first | exact Gr.refl _ | assumption | apply Gr.alloc | apply Gr.drew | apply Gr.drewN | refine Gr.trans ?_ (by assumption)))), cell_gr T2 (by (repeat (first | exact Gr.refl _ | assumption | apply Gr.alloc | apply Gr.drew | apply Gr.drewN | refine Gr.trans ?_ (by assumption))))⟩ (fun hHeld => ?_)
      (refine hold0 (v := ?_) (by kernel_rfl) (by kernel_rfl) (by kernel_rfl) (fun _ _ _ h => h) (by rfl) (fun w' hSw => ?_) (by assumption) ?_; rotate_left 1; · ((try dsimp only at hSw); (try go_simp); (try (with_reducible rfl))); (try simp only [Act.put, List.setIfInBounds_toArray, List.set_cons_zero, List.set_cons_succ]))
      (refine hold1 (v := ?_) (by kernel_rfl) (by kernel_rfl) (by kernel_rfl) (fun _ _ _ h => h) (by rfl) (fun w' hSw => ?_) (by assumption) ?_; rotate_left 1; · ((try dsimp only at hSw); (try go_simp); (try (with_reducible rfl))); (try simp only [Act.put, List.setIfInBounds_toArray, List.set_cons_zero, List.set_cons_succ]))
      (refine hold2 (v := ?_) (by kernel_rfl) (by kernel_rfl) (by kernel_rfl) (fun _ _ _ h => h) (by rfl) (fun w' hSw => ?_) (by assumption) ?_; rotate_left 1; · ((try dsimp only at hSw); (try go_simp); (try (with_reducible rfl))); (try simp only [Act.put, List.setIfInBounds_toArray, List.set_cons_zero, List.set_cons_succ]))
      (refine hold3 (v := ?_) (by kernel_rfl) (by kernel_rfl) (by kernel_rfl) (fun _ _ _ h => h) (by rfl) (fun w' hSw => ?_) (by assumption) ?_; rotate_left 1; · ((try dsimp only at hSw); (try go_simp); (try (with_reducible rfl))); (try simp only [Act.put, List.setIfInBounds_toArray, List.set_cons_zero, List.set_cons_succ]))
      (refine hold4 (v := ?_) (by kernel_rfl) (by kernel_rfl) (by kernel_rfl) (fun _ _ _ h => h) (by rfl) (fun w' hSw => ?_) (by assumption) ?_; rotate_left 1; · ((try dsimp only at hSw); (try go_simp); (try (with_reducible rfl))); (try simp only [Act.put, List.setIfInBounds_toArray, List.set_cons_zero, List.set_cons_succ]))
      (refine hold5 (v := ?_) (by kernel_rfl) (by kernel_rfl) (by kernel_rfl) (fun _ _ _ h => h) (by rfl) (fun w' hSw => ?_) (by assumption) ?_; rotate_left 1; · ((try dsimp only at hSw); (try go_simp); (try (with_reducible rfl))); (try simp only [Act.put, List.setIfInBounds_toArray, List.set_cons_zero, List.set_cons_succ]))
      (refine hold7 (v := ?_) (by kernel_rfl) (by kernel_rfl) (by kernel_rfl) (fun _ _ _ h => h) (by rfl) (fun w' hSw => ?_) (by assumption) ?_; rotate_left 1; · ((try dsimp only at hSw); (try go_simp); (try (with_reducible rfl))); (try simp only [Act.put, List.setIfInBounds_toArray, List.set_cons_zero, List.set_cons_succ]))
      (refine hold8 (v := ?_) (by kernel_rfl) (by kernel_rfl) (by kernel_rfl) (fun _ _ _ h => h) (by rfl) (fun w' hSw => ?_) (by assumption) ?_; rotate_left 1; · ((try dsimp only at hSw); (try go_simp); (try (with_reducible rfl))); (try simp only [Act.put, List.setIfInBounds_toArray, List.set_cons_zero, List.set_cons_succ]))
      refine next6 (by kernel_rfl) (fun K hK => ?_)
      go_simp
      go_at_call_of 44 (Value.slice qa (N.tr k).post.length qc)
      refine (Clone_calls _ (N.tr k).post _ (hq.gr (by (repeat (first | exact Gr.refl _ | assumption | apply Gr.alloc | apply Gr.drew | apply Gr.drewN | refine Gr.trans ?_ (by assumption))))) hsp2).mono ?_
      rintro _ w1 ⟨v1, rfl, o1, g1⟩
      obtain ⟨a1, e1, rfl, _, _⟩ := o1.ints.len
      have h1 := Held.fresh (base := BX + 1) (row := (Value.slice oa k oc).ownBlock) o1 (by simp; omega) (fun k' h => by have := (HOL.out k' h).2; simp; omega) (Gr.refl _)
      (refine hK.out _ _ ?_ (fun hHeld => ?_); · (exact ⟨cell_gr B1 (by (repeat (first | exact Gr.refl _ | assumption | apply Gr.alloc | apply Gr.drew | apply Gr.drewN | refine Gr.trans ?_ (by assumption)))), cell_gr T0 (by (repeat (first | exact Gr.refl _ | assumption | apply Gr.alloc | apply Gr.drew | apply Gr.drewN | refine Gr.trans ?_ (by assumption)))), cell_gr T1 (by (repeat (first | exact Gr.refl _ | assumption | apply Gr.alloc | apply Gr.drew | apply Gr.drewN | refine Gr.trans ?_ (by assumption)))), cell_gr T2 (by (repeat (first | exact Gr.refl _ | assumption | apply Gr.alloc | apply Gr.drew | apply Gr.drewN | refine Gr.trans ?_ (by assumption))))⟩))
      clear hK K
      try simp only [Act.put, List.setIfInBounds_toArray, List.set_cons_zero, List.set_cons_succ]
      refine next9 (by kernel_rfl) (fun K hK => ?_)
      go_simp
      go_at_call_of 44 (Value.slice pa (N.tr k).pre.length pc)
      refine (Clone_calls _ (N.tr k).pre _ (hp.gr (by (repeat (first | exact Gr.refl _ | assumption | apply Gr.alloc | apply Gr.drew | apply Gr.drewN | refine Gr.trans ?_ (by assumption))))) hsp1).mono ?_
      rintro _ w2 ⟨v2, rfl, o2, g2⟩
      obtain ⟨a2, e2, rfl, _, _⟩ := o2.ints.len
      have h2 := Held.fresh (base := BX + 1) (row := (Value.slice oa k oc).ownBlock) o2 (by have := (show Gr wr w1 from (by (repeat (first | exact Gr.refl _ | assumption | apply Gr.alloc | apply Gr.drew | apply Gr.drewN | refine Gr.trans ?_ (by assumption))))).le; simp; omega) (fun k' h => by have := (HOL.out k' h).2; have := (show Gr wr w1 from (by (repeat (first | exact Gr.refl _ | assumption | apply Gr.alloc | apply Gr.drew | apply Gr.drewN | refine Gr.trans ?_ (by assumption))))).le; simp; omega) (Gr.refl _)
      (refine hK.out _ _ ?_ (fun hHeld => ?_); · (exact ⟨cell_gr B1 (by (repeat (first | exact Gr.refl _ | assumption | apply Gr.alloc | apply Gr.drew | apply Gr.drewN | refine Gr.trans ?_ (by assumption)))), cell_gr T0 (by (repeat (first | exact Gr.refl _ | assumption | apply Gr.alloc | apply Gr.drew | apply Gr.drewN | refine Gr.trans ?_ (by assumption)))), cell_gr T1 (by (repeat (first | exact Gr.refl _ | assumption | apply Gr.alloc | apply Gr.drew | apply Gr.drewN | refine Gr.trans ?_ (by assumption)))), cell_gr T2 (by (repeat (first | exact Gr.refl _ | assumption | apply Gr.alloc | apply Gr.drew | apply Gr.drewN | refine Gr.trans ?_ (by assumption))))⟩))
      clear hK K
      try simp only [Act.put, List.setIfInBounds_toArray, List.set_cons_zero, List.set_cons_succ]
      (refine hold10 (v := ?_) (by kernel_rfl) (by kernel_rfl) (by kernel_rfl) (fun _ _ _ h => h) (by rfl) (fun w' hSw => ?_) (by assumption) ?_; rotate_left 1; · ((try dsimp only at hSw); (try go_simp); (try (with_reducible rfl))); (try simp only [Act.put, List.setIfInBounds_toArray, List.set_cons_zero, List.set_cons_succ]))
      refine next11 (by kernel_rfl) (fun K hK => ?_)
      go_simp
      (refine hK.out _ _ ?_ (fun hHeld => ?_); · (exact ⟨cell_gr B1 (by (repeat (first | exact Gr.refl _ | assumption | apply Gr.alloc | apply Gr.drew | apply Gr.drewN | refine Gr.trans ?_ (by assumption)))), cell_gr T0 (by (repeat (first | exact Gr.refl _ | assumption | apply Gr.alloc | apply Gr.drew | apply Gr.drewN | refine Gr.trans ?_ (by assumption)))), cell_gr T1 (by (repeat (first | exact Gr.refl _ | assumption | apply Gr.alloc | apply Gr.drew | apply Gr.drewN | refine Gr.trans ?_ (by assumption)))), cell_gr T2 (by (repeat (first | exact Gr.refl _ | assumption | apply Gr.alloc | apply Gr.drew | apply Gr.drewN | refine Gr.trans ?_ (by assumption))))⟩))
      clear hK K
      try simp only [Act.put, List.setIfInBounds_toArray, List.set_cons_zero, List.set_cons_succ]
      refine next12 (by kernel_rfl) (fun K hK => ?_)
      refine step_app_tran T (by rfl) _ _ (by rfl) (BX + 1) (.slice oa k oc) (turnUpto N k) ⟨(N.tr k).label, (N.tr k).post, (N.tr k).pre⟩ (.slice a1 (N.tr k).post.length e1) (.slice a2 (N.tr k).pre.length e2) ⟨w2.heap.size, 0, none⟩ (by rfl) (by rfl) (ho.gr (by (repeat (first | exact Gr.refl _ | assumption | apply Gr.alloc | apply Gr.drew | apply Gr.drewN | refine Gr.trans ?_ (by assumption))))) hlab (h1.gr (by (repeat (first | exact Gr.refl _ | assumption | apply Gr.alloc | apply Gr.drew | apply Gr.drewN | refine Gr.trans ?_ (by assumption))))) (h2.gr (by (repeat (first | exact Gr.refl _ | assumption | apply Gr.alloc | apply Gr.drew | apply Gr.drewN | refine Gr.trans ?_ (by assumption))))) (World.news_of_block (cs := #[.int .i64 (N.tr k).label, .slice a1 (N.tr k).post.length e1, .slice a2 (N.tr k).pre.length e2]) (t := 48) (fr := (0, 0)) (heap_alloc_new w2 _)) rfl rfl (by rw [HL.out]; omega) (Nat.le_trans hsz (Gr.le (by (repeat (first | exact Gr.refl _ | assumption | apply Gr.alloc | apply Gr.drew | apply Gr.drewN | refine Gr.trans ?_ (by assumption)))))) ?_
      intro g cp w3 ho3 hgr3 hat hlt3
      have hb3 := (hb0.gr (show Gr wr (w2.alloc (.cells #[.int .i64 (N.tr k).label, .slice a1 (N.tr k).post.length e1, .slice a2 (N.tr k).pre.length e2] 48)) from (by (repeat (first | exact Gr.refl _ | assumption | apply Gr.alloc | apply Gr.drew | apply Gr.drewN | refine Gr.trans ?_ (by assumption)))))).grown hgr3 (fun e => by have := (HOL.out BX e.symm).1; omega)
      have bt3 := (bt.gr (show Gr _ (w2.alloc (.cells #[.int .i64 (N.tr k).label, .slice a1 (N.tr k).post.length e1, .slice a2 (N.tr k).pre.length e2] 48)) from (by (repeat (first | exact Gr.refl _ | assumption | apply Gr.alloc | apply Gr.drew | apply Gr.drewN | refine Gr.trans ?_ (by assumption)))))).grown hgr3 (fun e => by have := (HOL.out wr.heap.size e.symm).2; omega)
      have k0 := hb3.cell (i := 1) rfl
      have kf := hb3.frozen 1
      have k1 := bt3.cell (i := 0) rfl
      have k2 := bt3.cell (i := 1) rfl
      have k3 := bt3.cell (i := 2) rfl
      (refine hK.out _ _ ?_ (fun hHeld => ?_); · (exact ⟨k0, k1, k2, k3⟩))
      clear hK K
      try simp only [Act.put, List.setIfInBounds_toArray, List.set_cons_zero, List.set_cons_succ]
      (refine hold13 (v := ?_) (by kernel_rfl) (by kernel_rfl) (by kernel_rfl) (fun _ _ _ h => h) (by rfl) (fun w' hSw => ?_) (by assumption) ?_; rotate_left 1; · ((try dsimp only at hSw); (try go_simp); (try (with_reducible rfl))); (try simp only [Act.put, List.setIfInBounds_toArray, List.set_cons_zero, List.set_cons_succ]))
      refine ends14 (by kernel_rfl) (fun K hK => ?_)
      go_simp
      refine hK.out _ _ ?_
      go_wp2_with fail
      have hsz3 : BX + 1 ≤ w3.heap.size := Nat.le_trans hsz (Nat.le_trans (Gr.le (show Gr wr (w2.alloc (.cells #[.int .i64 (N.tr k).label, .slice a1 (N.tr k).post.length e1, .slice a2 (N.tr k).pre.length e2] 48)) from (by (repeat (first | exact Gr.refl _ | assumption | apply Gr.alloc | apply Gr.drew | apply Gr.drewN | refine Gr.trans ?_ (by assumption)))))) hgr3.size)
      have hgr4 : Gr w w3 := Gr.grown (hgr.trans (show Gr wr (w2.alloc (.cells #[.int .i64 (N.tr k).label, .slice a1 (N.tr k).post.length e1, .slice a2 (N.tr k).pre.length e2] 48)) from (by (repeat (first | exact Gr.refl _ | assumption | apply Gr.alloc | apply Gr.drew | apply Gr.drewN | refine Gr.trans ?_ (by assumption)))))) hgr3 (fun k' h => by have := (HOL.out k' h).1; omega)
      have hr3 := (hb1.gr (show Gr wr (w2.alloc (.cells #[.int .i64 (N.tr k).label, .slice a1 (N.tr k).post.length e1, .slice a2 (N.tr k).pre.length e2] 48)) from (by (repeat (first | exact Gr.refl _ | assumption | apply Gr.alloc | apply Gr.drew | apply Gr.drewN | refine Gr.trans ?_ (by assumption)))))).grown hgr3 (fun e => by have := (HOL.out RX e.symm).1; omega)
      refine ⟨⟨k + 1, .slice (some ⟨g, 0, none⟩) ((turnUpto N k).length + 1) cp, hlt, by simp, hb3.set 1 _, hr3.other (by simp; omega) _, ?_, hgr4.setCell (by simp; omega) _, by simp [World.setCell]; omega⟩, by simp [intOf]; omega⟩
      rw [turnUpto_succ' hlt]
      exact ho3.other (by simp) _
    · obtain rfl : k = N.trans.length := by omega
      obtain ⟨oa, oc, hout⟩ := ho.form
      subst hout
      have C0 := hb0.cell (i := 0) rfl
      have C1 := hb0.cell (i := 1) rfl
      have D0 := hb1.cell (i := 0) rfl
      have D1 := hb1.cell (i := 1) rfl
      have F0 := hb1.frozen 0
      have hb2 := hb1.set 0 (.int .i64 N.places)
      have F1 := hb2.frozen 1
      have D2 := hb2.cell (i := 1) rfl
      have hb3 := hb2.set 1 (.slice oa (turnUpto N N.trans.length).length oc)
      have E0 := hb3.cell (i := 0) rfl
      have E1 := hb3.cell (i := 1) rfl
      go_wp2_with fail
      refine bodyPost_ret (v := .agg #[.int .i64 N.places, .slice oa (turnUpto N N.trans.length).length oc]) (by simp [results, Try.results21, go_sem, E0, E1]) rfl ⟨_, rfl, ?_, ?_⟩
      · have ht := ((ho.other (a := ⟨RX, 0, none⟩) (by simp; omega) (.int .i64 N.places)).other (a := ⟨RX, 1, none⟩) (by simp; omega) (.slice oa (turnUpto N N.trans.length).length oc)).trans
        rw [turnUpto_all] at ht ⊢
        have := NetR.mk_ (N := turnN N) ht (by rw [turnN_places]; exact hpl)
        rw [turnN_places] at this
        exact this
      · exact (hgr.setCell (by simp; omega) _).setCell (by simp; omega) _
theorem netSmall_ok {N : NetD} (h : netOkB N = true) : NetSmall N := by
  have hs : N.places ≤ 16 ∧ N.trans.length ≤ 24 := by
    have h' := h
    unfold netOkB at h'
    simp only [Bool.and_eq_true, decide_eq_true_eq] at h'
    omega
  refine ⟨by omega, fun k hk => ?_⟩
  have F := netOk_tr h hk
  have := F.pre; have := F.post
  omega
theorem netSmall_of {N : NetD} {m : List Int} (h : fitsB N m = true) : NetSmall N := netSmall_ok (fits_sizes h).2.2.2.2.2.2
end Go.Proofs.Ytjpapgbdhflgnaa
