/- Contracts of siphon.Siphon, Trap, Most, MostTrap. -/
import Derived.Test.YtmigejcejnofiaaSiph2
import Derived.Test.YtmigejcejnofiaaJumps
namespace Go.Proofs.Ytmigejcejnofiaa
open Go.RowKit Go.Tok
set_option linter.unusedVariables false

theorem lens_of {N : NetD} (h : netOkB N = true) : ∀ t ∈ N.trans, t.pre.length ≤ 16 ∧ t.post.length ≤ 16 := by
  intro t ht
  obtain ⟨k, hk, rfl⟩ := List.getElem_of_mem ht
  have F := netOk_tr h hk
  have sz := netSz h
  unfold NetD.tr at F
  rw [List.getD_eq_getElem?_getD, List.getElem?_eq_getElem hk] at F
  have h1 : ((N.trans[k]).pre.length : Int) = N.places := F.pre
  have h2 : ((N.trans[k]).post.length : Int) = N.places := F.post
  omega

set_option maxHeartbeats 1000000 in
theorem Siphon_calls (v u : Value) (N : NetD) (l : List Int) (w : World) (hN : NetR w v N) (hu : Ints w u l) :
    Calls Try.prog 23 #[v, u] w fun e w' => e = .returned (.bool (siphonB N l)) ∧ Gr w w' := by
  have eg : ∀ args w, (callFunc 66 args).run Try.prog w = .ok (.enter 66 args) w := (Go.Proofs.enters_of Try.func66 (by kernel_rfl) rfl)
  obtain ⟨a, cap, rfl, hnl, hncap, hpl, hT⟩ := hN.open_
  have hpl1 := hpl.1
  have hpl2 := hpl.2
  obtain ⟨ua, uc, rfl, ul, ul'⟩ := hu.len
  cases h : wholeB N l
  · have HC := Lib.hid (siphonB_bad h)
    go_enter Try.func23, Try.ntmps23
    go_wp2_with fail
    refine (whole_calls _ _ N l _ (hN.alloc _) (hu.alloc _)).mono ?_
    rw [h]; rintro _ w1 ⟨rfl, g1⟩
    go_wp2_with fail
    go_ret
    exact ⟨ret_bool HC.out.symm, by (repeat (first | exact Gr.refl _ | assumption | apply Gr.alloc | apply Gr.drew | apply Gr.drewN | refine Gr.trans ?_ (by assumption)))⟩
  · have HC := Lib.hid (siphonB_good h)
    have HL := Lib.hid (lens_of (wholeB_of h).1)
    have hsl := setN_lt l
    go_enter Try.func23, Try.ntmps23
    go_wp2_with fail
    refine (whole_calls _ _ N l _ (hN.alloc _) (hu.alloc _)).mono ?_
    rw [h]; rintro _ w1 ⟨rfl, g1⟩
    have B0 := box_cell g1 (i := 0) rfl
    have B1 := box_cell g1 (i := 1) rfl
    go_wp2_with fail
    refine (set_calls _ l _ (by (repeat (first | assumption | exact Ints.nil _ | (refine Ints.lit ?_ rfl rfl rfl ?_ ?_; ((focus (simp; done))); all_goals decide) | apply Ints.alloc | apply Ints.drew | refine Ints.gr ?_ (show Gr _ _ from by assumption))))).mono ?_
    rintro _ _ ⟨rfl, rfl⟩
    replace B1 := cell_gr B1 ((Gr.refl w1).alloc (.cells #[.int .u32 ((setN l : Nat) : Int)] 93))
    go_wp2_with fail
    have hT' := (hT.gr (box_gr g1)).gr ((Gr.refl w1).alloc (.cells #[.int .u32 ((setN l : Nat) : Int)] 93))
    refine (ContainsFuncTr_calls _ N.trans _ _ (fun t => badT t (setN l)) _ eg hT' (Siphon1_answers _ w1.heap.size (setN l) N.trans hsl (lit_cell rfl) HL.out)).mono ?_
    rintro _ w2 ⟨rfl, g2⟩
    go_wp2_with fail
    go_ret
    exact ⟨ret_bool (by rw [HC.out, anyBad_def]), by (repeat (first | exact Gr.refl _ | assumption | apply Gr.alloc | apply Gr.drew | apply Gr.drewN | refine Gr.trans ?_ (by assumption)))⟩

theorem Trap_calls (v u : Value) (N : NetD) (l : List Int) (w : World) (hN : NetR w v N) (hu : Ints w u l) (hS : NetSmall N) :
    Calls Try.prog 38 #[v, u] w fun e w' => e = .returned (.bool (trapB N l)) ∧ Gr w w' := by
  obtain ⟨a, cap, rfl, hnl, hncap, hpl, hT⟩ := hN.open_
  have hpl1 := hpl.1
  have hpl2 := hpl.2
  obtain ⟨ua, uc, rfl, ul, ul'⟩ := hu.len
  have HT := Lib.hid (trapB_def N l)
  go_enter Try.func38, Try.ntmps38
  go_wp2_with fail
  refine (Turned_calls _ N _ (hN.alloc _) hS).mono ?_
  rintro _ w1 ⟨v1, rfl, n1, g1⟩
  obtain ⟨a1, c1, rfl, _, _, _, _⟩ := n1.open_
  go_wp2_with fail
  refine (Siphon_calls _ _ (turnN N) l _ n1 (by (repeat (first | assumption | exact Ints.nil _ | (refine Ints.lit ?_ rfl rfl rfl ?_ ?_; ((focus (simp; done))); all_goals decide) | apply Ints.alloc | apply Ints.drew | refine Ints.gr ?_ (show Gr _ _ from by assumption))))).mono ?_
  rw [← HT.out]; rintro _ w2 ⟨rfl, g2⟩
  go_wp2_with fail
  go_ret
  exact ⟨rfl, by (repeat (first | exact Gr.refl _ | assumption | apply Gr.alloc | apply Gr.drew | apply Gr.drewN | refine Gr.trans ?_ (by assumption)))⟩

/-- what Most hands back -/
def RetMost (N : NetD) (l : List Int) (w : World) (e : Ending) (w' : World) : Prop :=
  (wholeB N l = true ∧ ∃ v L, e = .returned v ∧ MostOf N l L ∧ OwnI 3 w.heap.size w' v L ∧ Gr w w') ∨ (wholeB N l = false ∧ e = .returned (.slice none 0 0) ∧ Gr w w')
theorem RetMost.good {N : NetD} {l L : List Int} {w w' : World} {v : Value} (h : wholeB N l = true) (hL : MostOf N l L) (ho : OwnI 3 w.heap.size w' v L) (g : Gr w w') : RetMost N l w (.returned v) w' := .inl ⟨h, v, L, rfl, hL, ho, g⟩
theorem RetMost.bad {N : NetD} {l : List Int} {w w' : World} (h : wholeB N l = false) (g : Gr w w') : RetMost N l w (.returned (.slice none 0 0)) w' := .inr ⟨h, rfl, g⟩

set_option maxHeartbeats 4000000 in
set_option maxRecDepth 100000 in
theorem Most_calls (v u : Value) (N : NetD) (l : List Int) (w : World) (hN : NetR w v N) (hu : Ints w u l) :
    Calls Try.prog 25 #[v, u] w (RetMost N l w) := by
  obtain ⟨a, cap, rfl, hnl, hncap, hpl, hT⟩ := hN.open_
  have hpl1 := hpl.1
  have hpl2 := hpl.2
  obtain ⟨ua, uc, rfl, ul, ul'⟩ := hu.len
  cases h : wholeB N l
  · have HC := Lib.hid h
    go_enter Try.func25, Try.ntmps25
    go_wp2_with fail
    go_step3
    go_wp2_with fail
    refine (whole_calls _ _ N l _ (hN.alloc _) (hu.alloc _)).mono ?_
    rw [h]; rintro _ w1 ⟨rfl, g1⟩
    go_wp2_with fail
    rw [Exit.noGoto_ret]
    go_ret
    exact RetMost.bad HC.out (by (repeat (first | exact Gr.refl _ | assumption | apply Gr.alloc | apply Gr.drew | apply Gr.drewN | refine Gr.trans ?_ (by assumption))))
  · have HC := Lib.hid h
    have HL := Lib.hid (lens_of (wholeB_of h).1)
    have sz := netSz (wholeB_of h).1
    have hsl := setN_lt l
    go_enter Try.func25, Try.ntmps25
    go_wp2_with fail
    refine scope_jumps2 0 (fun a' w' => ∃ (s : Nat) (u3 u6 u7 u8 u15 u16 u17 u18 u19 u20 u21 u22 u23 u24 u25 u26 u27 u28 u29 u30 u31 u32 u33 u34 u35 u36 u37 u38 u39 u40 u41 u42 : Value), a' = { tmps := #[.agg #[.int .i64 N.places, .slice a N.trans.length cap], .slice ua l.length uc, .pointer (some ⟨w.heap.size, 0, none⟩), u3, .slice none 0 0, .int .u32 ((s : Nat) : Int), u6, u7, u8, .agg #[.int .i64 N.places, .slice a N.trans.length cap], .slice ua l.length uc, .bool true, .bool false, .slice ua l.length uc, .int .u32 ((setN l : Nat) : Int), u15, u16, u17, u18, u19, u20, u21, u22, u23, u24, u25, u26, u27, u28, u29, u30, u31, u32, u33, u34, u35, u36, u37, u38, u39, u40, u41, u42], defers := [] } ∧ s < 65536 ∧ MostInv N (setN l) s ∧ Gr (w.alloc (.cells #[.int .i64 N.places, .slice a N.trans.length cap] 24)) w') (fun a' _ => cnt (intOf (a'.tmps.getD 5 undef)).toNat 16) rfl ?_ (fun hpass => ?_)
    · rintro a' wj ⟨s, u3, u6, u7, u8, u15, u16, u17, u18, u19, u20, u21, u22, u23, u24, u25, u26, u27, u28, u29, u30, u31, u32, u33, u34, u35, u36, u37, u38, u39, u40, u41, u42, rfl, hs, hinv, hgr⟩
      have B0 := box_cell hgr (i := 0) rfl
      have B1 := box_cell hgr (i := 1) rfl
      have Bl := box_lt hgr
      go_wp2_with fail
      go_loopw [5, 18] (fun x i wr => ∃ k : Nat, k ≤ N.trans.length ∧ i = .int .i64 k ∧ x = .int .u32 ((s : Nat) : Int) ∧ StUpto N s k ∧ Gr wj wr) (fun _ i _ => N.trans.length - (intOf i).toNat)
      case atStart => exact ⟨0, Nat.zero_le _, rfl, rfl, StUpto.zero _ _, Gr.refl _⟩
      case round =>
        rename_i wr
        obtain ⟨k, hk, rfl, rfl, hst, hgr'⟩ := hrel
        by_cases hlt : k < N.trans.length
        · obtain ⟨b, o, vp, vq, rfl, c0, c1, c2, hlab, hp, hq⟩ := ((hT.gr (box_gr hgr)).gr hgr').at_ hlt
          obtain ⟨pa, pc, rfl, pl, pl'⟩ := hp.len
          obtain ⟨qa, qc, rfl, ql, ql'⟩ := hq.len
          obtain ⟨l1, l2⟩ := HL.out _ (NetD.tr_mem hlt)
          have o1 := ofN_lt l1
          have o2 := ofN_lt l2
          have o3 : ofN (N.tr k).post &&& s < 4294967296 := Nat.lt_of_le_of_lt Nat.and_le_right (by omega)
          have e1 := u32_and_nat (ofN (N.tr k).post) s (by omega) (by omega)
          have e2 := u32_and_nat (ofN (N.tr k).pre) s (by omega) (by omega)
          have e3 := u32_andNot_nat s (ofN (N.tr k).post &&& s) (by omega) o3
          rw [← dropB_def] at e3
          have hb := badT_def (N.tr k) s
          cases h1 : (ofN (N.tr k).post &&& s != 0)
          · have q1 : (((ofN (N.tr k).post &&& s : Nat) : Int) != 0) = false := by
              rw [← h1, Bool.eq_iff_iff]; simp
            have HB := Lib.hid (show badT (N.tr k) s = false by rw [hb, h1]; rfl)
            clear hb h1
            go_wp2_with (go_at_call 67; refine (of_calls _ (N.tr k).post _ (hq.gr (by (repeat (first | exact Gr.refl _ | assumption | apply Gr.alloc | apply Gr.drew | apply Gr.drewN | refine Gr.trans ?_ (by assumption))))) l2).mono ?_; rintro _ _ ⟨rfl, rfl⟩)
            go_roundw
            case rel => exact ⟨k + 1, by omega, by go_num, rfl, hst.succ HB.out, by (repeat (first | exact Gr.refl _ | assumption | apply Gr.alloc | apply Gr.drew | apply Gr.drewN | refine Gr.trans ?_ (by assumption)))⟩
            case measure => simp [intOf]; omega
          · have q1 : (((ofN (N.tr k).post &&& s : Nat) : Int) != 0) = true := by
              rw [← h1, Bool.eq_iff_iff]; simp
            cases h2 : (ofN (N.tr k).pre &&& s == 0)
            · have q2 : (((ofN (N.tr k).pre &&& s : Nat) : Int) == 0) = false := by
                rw [← h2, Bool.eq_iff_iff]; simp
              have HB := Lib.hid (show badT (N.tr k) s = false by rw [hb, h1, h2]; rfl)
              clear hb h1 h2
              go_wp2_with fail
              refine (of_calls _ (N.tr k).post _ (hq.gr (by (repeat (first | exact Gr.refl _ | assumption | apply Gr.alloc | apply Gr.drew | apply Gr.drewN | refine Gr.trans ?_ (by assumption))))) l2).mono ?_
              rintro _ _ ⟨rfl, rfl⟩
              go_wp2_with fail
              refine (of_calls _ (N.tr k).pre _ (hp.gr (by (repeat (first | exact Gr.refl _ | assumption | apply Gr.alloc | apply Gr.drew | apply Gr.drewN | refine Gr.trans ?_ (by assumption))))) l1).mono ?_
              rintro _ _ ⟨rfl, rfl⟩
              go_wp2_with fail
              go_roundw
              case rel => exact ⟨k + 1, by omega, by go_num, rfl, hst.succ HB.out, by (repeat (first | exact Gr.refl _ | assumption | apply Gr.alloc | apply Gr.drew | apply Gr.drewN | refine Gr.trans ?_ (by assumption)))⟩
              case measure => simp [intOf]; omega
            · have q2 : (((ofN (N.tr k).pre &&& s : Nat) : Int) == 0) = true := by
                rw [← h2, Bool.eq_iff_iff]; simp
              have HB := Lib.hid (show badT (N.tr k) s = true by rw [hb, h1, h2]; rfl)
              clear hb h1 h2
              go_wp2_with fail
              refine (of_calls _ (N.tr k).post _ (hq.gr (by (repeat (first | exact Gr.refl _ | assumption | apply Gr.alloc | apply Gr.drew | apply Gr.drewN | refine Gr.trans ?_ (by assumption))))) l2).mono ?_
              rintro _ _ ⟨rfl, rfl⟩
              go_wp2_with fail
              refine (of_calls _ (N.tr k).pre _ (hp.gr (by (repeat (first | exact Gr.refl _ | assumption | apply Gr.alloc | apply Gr.drew | apply Gr.drewN | refine Gr.trans ?_ (by assumption))))) l1).mono ?_
              rintro _ _ ⟨rfl, rfl⟩
              go_wp2_with fail
              go_step3
              have hdl : dropB s (ofN (N.tr k).post &&& s) < 65536 := dropB_lt hs
              refine And.intro rfl (And.intro ⟨dropB s (ofN (N.tr k).post &&& s), _, _, _, _, _, _, _, _, _, _, _, _, _, _, _, _, _, _, _, _, _, _, _, _, _, _, _, _, _, _, _, _, rfl, hdl, hinv.step hlt hs HB.out, hgr.trans (hgr'.trans (by (repeat (first | exact Gr.refl _ | assumption | apply Gr.alloc | apply Gr.drew | apply Gr.drewN | refine Gr.trans ?_ (by assumption)))))⟩ ?_)
              show cnt (((dropB s (ofN (N.tr k).post &&& s) : Nat) : Int)).toNat 16 < cnt ((s : Int)).toNat 16
              rw [Int.toNat_natCast, Int.toNat_natCast]
              exact drop_cnt hs HB.out
        · have hkn : N.trans.length ≤ k := by omega
          go_wp2_with fail
          refine (list_calls s _ hs).mono ?_
          rintro _ w5 ⟨v5, rfl, o5, g5⟩
          go_wp2_with fail
          simp only [Exit.jump]
          go_ret
          have G5 : Gr w w5 := (box_gr hgr).trans (hgr'.trans g5)
          exact RetMost.good HC.out (MostOf.mk hs hinv hst hkn) (o5.low (Gr.le ((box_gr hgr).trans hgr'))) G5
    · go_wp2_with fail
      refine (whole_calls _ _ N l _ (hN.alloc _) (hu.alloc _)).mono ?_
      rw [h]; rintro _ w1 ⟨rfl, g1⟩
      have B0 := box_cell g1 (i := 0) rfl
      have B1 := box_cell g1 (i := 1) rfl
      clear h
      go_wp2_with fail
      refine (set_calls _ l _ (by (repeat (first | assumption | exact Ints.nil _ | (refine Ints.lit ?_ rfl rfl rfl ?_ ?_; ((focus (simp; done))); all_goals decide) | apply Ints.alloc | apply Ints.drew | refine Ints.gr ?_ (show Gr _ _ from by assumption))))).mono ?_
      rintro _ _ ⟨rfl, rfl⟩
      go_wp2_with fail
      go_step3
      rename_i hK
      refine hK _ _ (hpass _ _ ⟨setN l, _, _, _, _, _, _, _, _, _, _, _, _, _, _, _, _, _, _, _, _, _, _, _, _, _, _, _, _, _, _, _, _, rfl, hsl, MostInv.start N (setN l), g1⟩)
end Go.Proofs.Ytmigejcejnofiaa
