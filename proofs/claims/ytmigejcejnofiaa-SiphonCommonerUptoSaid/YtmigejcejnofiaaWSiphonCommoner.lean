/- The call SiphonCommoner answers true at any net, marking and sequence that read as data (lists of at most 1048576 elements each, those of the net too); nothing that lay there turns. -/
import Derived.Test.YtmigejcejnofiaaWSiphonDead
namespace Go.Proofs.Ytmigejcejnofiaa
open Go.RowKit Go.Tok
set_option linter.unusedVariables false

theorem pow64 : ∀ q : Nat, q < 9 → wrap64 ((2 : Int) ^ q) = ((2 ^ q : Nat) : Int) := by decide +kernel
theorem bit_test64 {s k : Nat} (hs : s < 65536) : (bits .and .i64 ((s : Int) / 2 ^ k) 1 == 1) = s.testBit k := by
  have h3 : (2 : Int) ^ k = ((2 ^ k : Nat) : Int) := by simp
  have hlt : s / 2 ^ k < 65536 := Nat.lt_of_le_of_lt (Nat.div_le_self _ _) hs
  rw [h3, ← Int.natCast_ediv, Nat.testBit_eq_decide_div_mod_eq]
  generalize s / 2 ^ k = q at hlt
  have e1 : (BitVec.ofInt 64 (q : Int)).toNat = q := by simp; omega
  have e2 : (BitVec.ofInt 64 1).toNat = 1 := by decide
  have : bits .and .i64 (q : Int) 1 = ((q % 2 : Nat) : Int) := by
    show IntKind.i64.wrap ((BitVec.ofInt 64 (q : Int) &&& BitVec.ofInt 64 1).toNat : Int) = _
    rw [BitVec.toNat_and, e1, e2, Nat.and_one_is_mod]
    simp [IntKind.wrap, IntKind.bits, IntKind.signed]
    omega
  rw [this, Bool.eq_iff_iff, beq_iff_eq, decide_eq_true_eq]
  omega

set_option maxHeartbeats 4000000 in
set_option maxRecDepth 100000 in
theorem SiphonCommoner_walk {v u q : Value} {N : NetD} {m seq : List Int} (w : World) (hN : NetR w v N ∧ ∀ k, k < N.trans.length → (N.tr k).pre.length + (N.tr k).post.length ≤ 1048576) (h1 : Ints w u m ∧ m.length ≤ 1048576) (h2 : Ints w q seq ∧ seq.length ≤ 1048576) :
    Calls Try.prog 16 #[v, u, q] w fun e w' => e = .returned (.bool true) ∧ Gr w w' := by
  obtain ⟨hN, hB⟩ := hN
  obtain ⟨hu, lm⟩ := h1
  obtain ⟨hs, ls⟩ := h2
  have T := intTy
  have hN' := hN
  obtain ⟨a, cap, rfl, hnl, hncap, hpl, hT⟩ := hN.open_
  have hpl1 := hpl.1
  have hpl2 := hpl.2
  obtain ⟨ua, uc, rfl, ul, ul'⟩ := hu.len
  obtain ⟨sa, sc, rfl, sl, sl'⟩ := hs.len
  have HB := Lib.hid (show ∀ k, k < N.trans.length → (N.tr k).pre.length + (N.tr k).post.length ≤ 17592186044000 from fun k hk => by have := hB k hk; omega)
  clear hB
  cases ho : ordB N
  case false =>
    go_enter Try.func16, Try.ntmps16
    go_wp2_with fail
    refine (alive6_calls _).mono ?_
    rintro _ w1 ⟨rfl, g1⟩
    have B0 := box_cell g1 (i := 0) rfl
    have B1 := box_cell g1 (i := 1) rfl
    go_wp2_with fail
    refine (ordinary_calls _ N _ (by (repeat (first | assumption | refine NetR.gr ?_ (show Gr _ _ from by assumption) | apply NetR.alloc | apply NetR.drew))) HB.out).mono ?_
    rw [ho]; rintro _ w2 ⟨rfl, g2⟩
    go_wp2_with fail
    go_ret
    exact ⟨rfl, by (repeat (first | exact Gr.refl _ | assumption | apply Gr.alloc | apply Gr.drew | apply Gr.drewN | refine Gr.trans ?_ (by assumption)))⟩
  by_cases h8 : 8 < N.places
  case pos =>
    go_enter Try.func16, Try.ntmps16
    go_wp2_with fail
    refine (alive6_calls _).mono ?_
    rintro _ w1 ⟨rfl, g1⟩
    have B0 := box_cell g1 (i := 0) rfl
    have B1 := box_cell g1 (i := 1) rfl
    go_wp2_with fail
    refine (ordinary_calls _ N _ (by (repeat (first | assumption | refine NetR.gr ?_ (show Gr _ _ from by assumption) | apply NetR.alloc | apply NetR.drew))) HB.out).mono ?_
    rw [ho]; rintro _ w2 ⟨rfl, g2⟩
    replace B0 : w2.cell? ⟨w.heap.size, 0, none⟩ = some (.int .i64 N.places) := by (repeat (first | (refine lit_at ?_ rfl; (focus (simp; done))) | assumption | refine cell_gr ?_ (show Gr _ _ from by assumption) | refine cell_gr ?_ ((Gr.refl _).alloc _)))
    replace B1 : w2.cell? ⟨w.heap.size, 1, none⟩ = some (.slice a N.trans.length cap) := by (repeat (first | (refine lit_at ?_ rfl; (focus (simp; done))) | assumption | refine cell_gr ?_ (show Gr _ _ from by assumption) | refine cell_gr ?_ ((Gr.refl _).alloc _)))
    go_wp2_with fail
    go_ret
    exact ⟨rfl, by (repeat (first | exact Gr.refl _ | assumption | apply Gr.alloc | apply Gr.drew | apply Gr.drewN | refine Gr.trans ?_ (by assumption)))⟩
  by_cases hml : (m.length : Int) = N.places
  case neg =>
    have q1 : ((m.length : Int) != N.places) = true := by simpa using hml
    have h8' : N.places ≤ 8 := by omega
    clear hml h8
    go_enter Try.func16, Try.ntmps16
    go_wp2_with fail
    refine (alive6_calls _).mono ?_
    rintro _ w1 ⟨rfl, g1⟩
    have B0 := box_cell g1 (i := 0) rfl
    have B1 := box_cell g1 (i := 1) rfl
    go_wp2_with fail
    refine (ordinary_calls _ N _ (by (repeat (first | assumption | refine NetR.gr ?_ (show Gr _ _ from by assumption) | apply NetR.alloc | apply NetR.drew))) HB.out).mono ?_
    rw [ho]; rintro _ w2 ⟨rfl, g2⟩
    replace B0 : w2.cell? ⟨w.heap.size, 0, none⟩ = some (.int .i64 N.places) := by (repeat (first | (refine lit_at ?_ rfl; (focus (simp; done))) | assumption | refine cell_gr ?_ (show Gr _ _ from by assumption) | refine cell_gr ?_ ((Gr.refl _).alloc _)))
    replace B1 : w2.cell? ⟨w.heap.size, 1, none⟩ = some (.slice a N.trans.length cap) := by (repeat (first | (refine lit_at ?_ rfl; (focus (simp; done))) | assumption | refine cell_gr ?_ (show Gr _ _ from by assumption) | refine cell_gr ?_ ((Gr.refl _).alloc _)))
    go_wp2_with fail
    go_ret
    exact ⟨rfl, by (repeat (first | exact Gr.refl _ | assumption | apply Gr.alloc | apply Gr.drew | apply Gr.drewN | refine Gr.trans ?_ (by assumption)))⟩
  have hok := (ordB_of ho).1
  have sz := netSz hok
  obtain ⟨p, hp⟩ := Int.eq_ofNat_of_zero_le sz.1
  have hp8 : p ≤ 8 := by omega
  have hmp : m.length = p := by omega
  have q1 : ((m.length : Int) != N.places) = false := by simp [hml]
  have h8' : N.places ≤ 8 := by omega
  have HP := Lib.hid hp
  have HO := Lib.hid ho
  have HMP := Lib.hid hmp
  have hS := netSmall_ok hok
  clear sz h8 hml hok hmp hp
  go_enter Try.func16, Try.ntmps16
  go_wp2_with fail
  refine (alive6_calls _).mono ?_
  rintro _ w1 ⟨rfl, g1⟩
  have B0 := box_cell g1 (i := 0) rfl
  have B1 := box_cell g1 (i := 1) rfl
  go_wp2_with fail
  refine (ordinary_calls _ N _ (by (repeat (first | assumption | refine NetR.gr ?_ (show Gr _ _ from by assumption) | apply NetR.alloc | apply NetR.drew))) HB.out).mono ?_
  rw [ho]; rintro _ w2 ⟨rfl, g2⟩
  replace B0 : w2.cell? ⟨w.heap.size, 0, none⟩ = some (.int .i64 N.places) := by (repeat (first | (refine lit_at ?_ rfl; (focus (simp; done))) | assumption | refine cell_gr ?_ (show Gr _ _ from by assumption) | refine cell_gr ?_ ((Gr.refl _).alloc _)))
  replace B1 : w2.cell? ⟨w.heap.size, 1, none⟩ = some (.slice a N.trans.length cap) := by (repeat (first | (refine lit_at ?_ rfl; (focus (simp; done))) | assumption | refine cell_gr ?_ (show Gr _ _ from by assumption) | refine cell_gr ?_ ((Gr.refl _).alloc _)))
  clear ho
  go_wp2_with fail
  have G2 : Gr w w2 := by (repeat (first | exact Gr.refl _ | assumption | apply Gr.alloc | apply Gr.drew | apply Gr.drewN | refine Gr.trans ?_ (by assumption)))
  have K1 : Ints w2 (.slice ua m.length uc) m := by (repeat (first | assumption | exact Ints.nil _ | (refine Ints.lit ?_ rfl rfl rfl ?_ ?_; ((focus (simp; done))); all_goals decide) | apply Ints.alloc | apply Ints.drew | refine Ints.gr ?_ (show Gr _ _ from by assumption)))
  have K2 : Ints w2 (.slice sa seq.length sc) seq := by (repeat (first | assumption | exact Ints.nil _ | (refine Ints.lit ?_ rfl rfl rfl ?_ ?_; ((focus (simp; done))); all_goals decide) | apply Ints.alloc | apply Ints.drew | refine Ints.gr ?_ (show Gr _ _ from by assumption)))
  have K4 : NetR w2 (.agg #[.int .i64 N.places, .slice a N.trans.length cap]) N := by (repeat (first | assumption | refine NetR.gr ?_ (show Gr _ _ from by assumption) | apply NetR.alloc | apply NetR.drew))
  have hp0 : 0 ≤ N.places := by have := HP.out; omega
  clear g1 g2
  obtain ⟨M, hM⟩ : ∃ M, M = 2 ^ p := ⟨_, rfl⟩
  have hM1 : 1 ≤ M := by rw [hM]; exact Nat.one_le_two_pow
  have hM256 : M ≤ 256 := by rw [hM]; exact (show 2 ^ p ≤ 2 ^ 8 from Nat.pow_le_pow_right (by decide) hp8)
  have HM := Lib.hid hM
  clear hM
  go_loopw [7] (fun s wr => ∃ x : Nat, 1 ≤ x ∧ x ≤ M ∧ s = .int .i64 x ∧ CommUpto N m p x ∧ Gr w2 wr) (fun s _ => M - (intOf s).toNat)
  case atStart => exact ⟨1, Nat.le_refl _, hM1, rfl, CommUpto.one _ _ _, Gr.refl _⟩
  case round =>
    rename_i wr _
    obtain ⟨x, hx1, hx2, rfl, hC, hgr⟩ := hrel
    have D0 := cell_gr B0 hgr
    have D1 := cell_gr B1 hgr
    have e0 : wrap64 ((2 : Int) ^ N.places.toNat) = ((M : Nat) : Int) := by
      rw [HP.out, Int.toNat_natCast, HM.out]; exact pow64 p (by omega)
    have hx256 : x ≤ 256 := Nat.le_trans hx2 hM256
    obtain ⟨wo, rfl⟩ : ∃ wo, wo = wr := ⟨wr, rfl⟩
    by_cases hlt : x < M
    · have e1 : (x : Int) < wrap64 ((2 : Int) ^ N.places.toNat) := by rw [e0]; exact Int.ofNat_lt.2 hlt
      clear e0
      go_wp2_with fail
      clear e1
      go_loopw [8, 40] (fun out i wq => ∃ k : Nat, k ≤ p ∧ i = .int .i64 k ∧ OwnI 3 wo.heap.size wq out (bitsTo x k) ∧ Gr wo wq) (fun _ i _ => p - (intOf i).toNat)
      case atStart => exact ⟨0, Nat.zero_le _, rfl, by rw [bitsTo_zero]; exact OwnI.nil _ _ _, Gr.refl _⟩
      case round =>
        obtain ⟨k, hk, rfl, hown, hgq⟩ := hrel
        by_cases hkp : k < p
        · have f1 : (k : Int) < N.places := by have := HP.out; omega
          have hlen := bitsTo_len x k
          have ht := bit_test64 (s := x) (k := k) (by omega)
          cases hb : x.testBit k
          · have HE := Lib.hid (bitsTo_no hb)
            rw [hb] at ht
            clear hb
            go_wp2_with fail
            go_roundw
            case rel => exact ⟨k + 1, by omega, by go_num, by rw [HE.out]; exact hown, hgq⟩
            case measure => simp [intOf]; omega
          · have HE := Lib.hid (bitsTo_yes hb)
            rw [hb] at ht
            clear hb
            go_wp2_with (at_builtin; refine app_int T _ _ wo.heap.size _ (bitsTo x k) ⟨wr.heap.size, 0, none⟩ k rfl rfl (by rfl) (by rfl) (hown.alloc _) (lit_cell (by simp)) (i64_nat (by omega)) (by omega) (Gr.le (by (repeat (first | exact Gr.refl _ | assumption | apply Gr.alloc | apply Gr.drew | apply Gr.drewN | refine Gr.trans ?_ (by assumption))))) ?_; intro v' w' ho' hg' _ _)
            go_roundw
            case rel => exact ⟨k + 1, by omega, by go_num, by rw [HE.out]; exact ho', hg' wo (Nat.le_refl _) (by (repeat (first | exact Gr.refl _ | assumption | apply Gr.alloc | apply Gr.drew | apply Gr.drewN | refine Gr.trans ?_ (by assumption))))⟩
            case measure => simp [intOf]; omega
        · have hkp' : k = p := by omega
          subst hkp'
          have f1 : N.places ≤ (k : Int) := by have := HP.out; omega
          have i5 := hown.ints
          have E0 := cell_gr D0 hgq
          have E1 := cell_gr D1 hgq
          have GQ : Gr w2 wr := hgr.trans hgq
          cases hsi : siphonB N (bitsTo x k)
          · have HN := Lib.hid (hC.no hsi)
            go_wp2_with fail
            refine (Siphon_calls _ _ N (bitsTo x k) _ (K4.gr GQ) i5).mono ?_
            rw [hsi]; rintro _ w6 ⟨rfl, g6⟩
            have G6 : Gr w2 w6 := GQ.trans g6
            go_wp2_with fail
            go_roundw
            case rel => exact ⟨x + 1, by omega, hlt, by go_num, HN.out, G6⟩
            case measure => simp [intOf]; omega
          · have hwh := (siphonB_of hsi).1
            have hwt : wholeB (turnN N) (bitsTo x k) = true := wholeB_mk (netOk_turn (wholeB_of hwh).1) fun y hy => by rw [turnN_places]; exact (wholeB_of hwh).2 y hy
            have HWT := Lib.hid hwt
            clear hwt hwh
            go_wp2_with fail
            refine (Siphon_calls _ _ N (bitsTo x k) _ (K4.gr GQ) i5).mono ?_
            rw [hsi]; rintro _ w6 ⟨rfl, g6⟩
            have E0 := cell_gr E0 g6
            have E1 := cell_gr E1 g6
            go_wp2_with fail
            refine (MostTrap_calls _ _ N (bitsTo x k) _ (K4.gr (GQ.trans g6)) (i5.gr g6) hS).mono ?_
            rintro _ w7 (⟨_, v7, L, rfl, hL, o7, g7⟩ | ⟨h7, _⟩)
            case inr => rw [HWT.out] at h7; cases h7
            have G7 : Gr w2 w7 := GQ.trans (g6.trans g7)
            have i7 := o7.ints
            cases hba : bareB m L
            · have HN := Lib.hid (hC.yes hL hba)
              go_wp2_with fail
              refine (bare_calls _ _ m L _ (K1.gr G7) i7).mono ?_
              rw [hba]; rintro _ _ ⟨rfl, rfl⟩
              go_wp2_with fail
              go_roundw
              case rel => exact ⟨x + 1, by omega, hlt, by go_num, HN.out, G7⟩
              case measure => simp [intOf]; omega
            · go_wp2_with fail
              refine (bare_calls _ _ m L _ (K1.gr G7) i7).mono ?_
              rw [hba]; rintro _ _ ⟨rfl, rfl⟩
              go_wp2_with fail
              go_ret
              exact ⟨rfl, G2.trans G7⟩
    · have hxe : x = M := Nat.le_antisymm hx2 (Nat.not_lt.1 hlt)
      have e1 : wrap64 ((2 : Int) ^ N.places.toNat) ≤ (x : Int) := by rw [e0, hxe]; exact Int.le_refl _
      have hC' : CommUpto N m p (2 ^ p) := by rw [← HM.out, ← hxe]; exact hC
      clear e0 hxe
      have GR : Gr w wo := G2.trans hgr
      rcases hr : runF N m seq with ⟨y, e⟩
      have HR := Lib.hid hr
      by_cases he : e = 0
      case neg =>
        obtain ⟨rfl, _⟩ := runF_bad hr he
        have q2 : (e != 0) = true := by simpa using he
        clear hr he hC hC' hpl hpl1 hpl2 h8' hx256 hM1 hM256 hx1 hx2 hlt q1
        go_wp2_with fail
        refine (Run_calls _ _ _ N m seq _ (K4.gr hgr) (K1.gr hgr) (K2.gr hgr)).mono ?_
        rw [HR.out]; rintro _ w4 ⟨v4, rfl, i4, g4⟩
        have G4 : Gr w w4 := GR.trans g4
        go_wp2_with fail
        go_ret
        exact ⟨rfl, G4⟩
      subst he
      have hne := commoner' hr HO.out HP.out hC'
      have h0 : 0 < (enabledL N y).length := List.length_pos_iff.2 hne
      have HE := Lib.hid (enabledF_fit ((runF_of hr).2.fits (runF_of hr).1))
      clear hr hne hC hC' hpl hpl1 hpl2 h8' hx256 hM1 hM256 hx1 hx2 hlt q1
      go_wp2_with fail
      refine (Run_calls _ _ _ N m seq _ (K4.gr hgr) (K1.gr hgr) (K2.gr hgr)).mono ?_
      rw [HR.out]; rintro _ w4 ⟨v4, rfl, i4, g4⟩
      have E0 := cell_gr D0 g4
      have E1 := cell_gr D1 g4
      go_wp2_with fail
      refine (Enabled_calls _ _ N y _ (K4.gr (hgr.trans g4)) i4).mono ?_
      rw [HE.out]; rintro _ w5 ⟨v5, rfl, i5, g5⟩
      obtain ⟨a5, c5, rfl, _, _⟩ := i5.len
      have G5 : Gr w w5 := GR.trans (g4.trans g5)
      have hd : decide (0 < (enabledL N y).length) = true := by simpa using h0
      go_wp2_with fail
      go_ret
      exact ⟨rfl, G5⟩
end Go.Proofs.Ytmigejcejnofiaa
