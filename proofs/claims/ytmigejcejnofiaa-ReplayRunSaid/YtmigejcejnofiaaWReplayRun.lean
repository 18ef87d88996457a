/- The call ReplayRun answers true at any net and trace that read as data (lists of at most 17592186043904 elements); nothing that lay there turns. -/
import Derived.Test.YtmigejcejnofiaaAlive20
import Derived.Test.YtmigejcejnofiaaReplLaw2
import Derived.Test.YtmigejcejnofiaaNet3
namespace Go.Proofs.Ytmigejcejnofiaa
open Go.RowKit Go.Tok
set_option linter.unusedVariables false

def idxTo (N : NetD) (tr : List Int) (k : Nat) : List Int := (tr.take k).map fun a => firstI (fun t => decide (t.label = a)) N.trans
theorem idxTo_zero (N : NetD) (tr : List Int) : idxTo N tr 0 = [] := by simp [idxTo]
theorem idxTo_succ {N : NetD} {tr : List Int} {k : Nat} (h : k < tr.length) : idxTo N tr (k + 1) = idxTo N tr k ++ [firstI (fun t => decide (t.label = nth tr k)) N.trans] := by
  unfold idxTo; rw [List.take_succ_eq_append_getElem h, List.map_append, nth_lt h]; rfl
theorem idxTo_all (N : NetD) (tr : List Int) : idxTo N tr tr.length = tr.map fun a => firstI (fun t => decide (t.label = a)) N.trans := by simp [idxTo]
theorem idxTo_len {N : NetD} {tr : List Int} {k : Nat} (h : k ≤ tr.length) : (idxTo N tr k).length = k := by simp [idxTo]; omega
set_option maxRecDepth 100000 in
theorem ReplayRun1_answers (w0 : World) (xb : Nat) (x : Int) (ts : List TranD) (hx : w0.cell? ⟨xb, 0, none⟩ = some (.int .i64 x)) :
    AnswersTr Try.prog 50 #[.pointer (some ⟨xb, 0, none⟩)] ts (fun t => decide (t.label = x)) w0 := by
  intro W vp vq t ht g hlab hp hq
  obtain ⟨pa, pc, rfl, _, _⟩ := hp.len
  obtain ⟨qa, qc, rfl, _, _⟩ := hq.len
  have hx' := cell_gr (cell_gr hx g) ((Gr.refl W).alloc (.cells #[.int .i64 t.label, .slice pa t.pre.length pc, .slice qa t.post.length qc] 74))
  go_enter Try.func50, Try.ntmps50
  go_wp2_with fail
  go_ret
  exact ⟨ret_bool (by rw [Bool.eq_iff_iff]; simp), by (repeat (first | exact Gr.refl _ | assumption | apply Gr.alloc | apply Gr.drew | apply Gr.drewN | refine Gr.trans ?_ (by assumption)))⟩

set_option maxHeartbeats 4000000 in
set_option maxRecDepth 100000 in
theorem ReplayRun_walk {v s : Value} {N : NetD} {i o : Int} {seq : List Int} (w : World) (hN : NetR w v N) (hi : I64 i) (ho : I64 o) (h2 : Ints w s seq ∧ seq.length ≤ 17592186043904) :
    Calls Try.prog 14 #[v, .int .i64 i, .int .i64 o, s] w fun e w' => e = .returned (.bool true) ∧ Gr w w' := by
  obtain ⟨hs, ls⟩ := h2
  have hN' := hN
  obtain ⟨a, cap, rfl, hnl, hncap, hpl, hT⟩ := hN.open_
  have hpl1 := hpl.1
  have hpl2 := hpl.2
  obtain ⟨sa, sc, rfl, sl, sl'⟩ := hs.len
  rcases hr : replF N i o seq with ⟨⟨P, T', L, F⟩, e⟩
  have HR := Lib.hid hr
  by_cases he : e = 0
  case neg =>
    have q1 : (e != 0) = true := by simpa using he
    clear hr he
    go_enter Try.func14, Try.ntmps14
    go_wp2_with fail
    refine (alive20_calls _).mono ?_
    rintro _ w1 ⟨rfl, g1⟩
    have B0 := box_cell g1 (i := 0) rfl
    have B1 := box_cell g1 (i := 1) rfl
    go_wp2_with fail
    refine (Replay_calls _ _ N i o seq _ (by (repeat (first | assumption | refine NetR.gr ?_ (show Gr _ _ from by assumption) | apply NetR.alloc | apply NetR.drew))) hi ho (by (repeat (first | assumption | exact Ints.nil _ | (refine Ints.lit ?_ rfl rfl rfl ?_ ?_; ((focus (simp; done))); all_goals decide) | apply Ints.alloc | apply Ints.drew | refine Ints.gr ?_ (show Gr _ _ from by assumption)))) (by omega)).mono ?_
    rw [HR.out]; rintro _ w2 ⟨rfl, g2⟩
    replace B0 := cell_gr B0 g2
    replace B1 := cell_gr B1 g2
    have G2 : Gr w w2 := by (repeat (first | exact Gr.refl _ | assumption | apply Gr.alloc | apply Gr.drew | apply Gr.drewN | refine Gr.trans ?_ (by assumption)))
    have K4 : NetR w2 (.agg #[.int .i64 N.places, .slice a N.trans.length cap]) N := by (repeat (first | assumption | refine NetR.gr ?_ (show Gr _ _ from by assumption) | apply NetR.alloc | apply NetR.drew))
    have K2 : Ints w2 (.slice sa seq.length sc) seq := by (repeat (first | assumption | exact Ints.nil _ | (refine Ints.lit ?_ rfl rfl rfl ?_ ?_; ((focus (simp; done))); all_goals decide) | apply Ints.alloc | apply Ints.drew | refine Ints.gr ?_ (show Gr _ _ from by assumption)))
    clear g1 g2
    go_wp2_with fail
    go_ret
    exact ⟨rfl, by (repeat (first | exact Gr.refl _ | assumption | apply Gr.alloc | apply Gr.drew | apply Gr.drewN | refine Gr.trans ?_ (by assumption)))⟩
  case pos =>
    subst he
    have hO := repl_ok hr
    have h5 := hO.lacked.1
    simp only [] at h5
    by_cases hL : 0 < L
    · clear hO hr h5
      go_enter Try.func14, Try.ntmps14
      go_wp2_with fail
      refine (alive20_calls _).mono ?_
      rintro _ w1 ⟨rfl, g1⟩
      have B0 := box_cell g1 (i := 0) rfl
      have B1 := box_cell g1 (i := 1) rfl
      go_wp2_with fail
      refine (Replay_calls _ _ N i o seq _ (by (repeat (first | assumption | refine NetR.gr ?_ (show Gr _ _ from by assumption) | apply NetR.alloc | apply NetR.drew))) hi ho (by (repeat (first | assumption | exact Ints.nil _ | (refine Ints.lit ?_ rfl rfl rfl ?_ ?_; ((focus (simp; done))); all_goals decide) | apply Ints.alloc | apply Ints.drew | refine Ints.gr ?_ (show Gr _ _ from by assumption)))) (by omega)).mono ?_
      rw [HR.out]; rintro _ w2 ⟨rfl, g2⟩
      replace B0 := cell_gr B0 g2
      replace B1 := cell_gr B1 g2
      have G2 : Gr w w2 := by (repeat (first | exact Gr.refl _ | assumption | apply Gr.alloc | apply Gr.drew | apply Gr.drewN | refine Gr.trans ?_ (by assumption)))
      have K4 : NetR w2 (.agg #[.int .i64 N.places, .slice a N.trans.length cap]) N := by (repeat (first | assumption | refine NetR.gr ?_ (show Gr _ _ from by assumption) | apply NetR.alloc | apply NetR.drew))
      have K2 : Ints w2 (.slice sa seq.length sc) seq := by (repeat (first | assumption | exact Ints.nil _ | (refine Ints.lit ?_ rfl rfl rfl ?_ ?_; ((focus (simp; done))); all_goals decide) | apply Ints.alloc | apply Ints.drew | refine Ints.gr ?_ (show Gr _ _ from by assumption)))
      clear g1 g2
      go_wp2_with fail
      go_ret
      exact ⟨rfl, by (repeat (first | exact Gr.refl _ | assumption | apply Gr.alloc | apply Gr.drew | apply Gr.drewN | refine Gr.trans ?_ (by assumption)))⟩
    · obtain rfl : L = 0 := by omega
      have h7 := hO.left.1
      have h8 := hO.left.2
      simp only [] at h7 h8
      obtain ⟨i, o, x, rfl, rfl, hS, hl, hrun, hsum, hx0, hxb, hxl⟩ := repl_run hr rfl
      simp only [] at hsum
      have h16 := netOk_p16 hS.ok
      have h24 := netOk_n24 hS.ok
      have hoL : o < x.length := by rw [hxl]; exact hS.ho
      have hx16 : x.length ≤ 16 := by omega
      have hoI : (o : Int) < (x.length : Int) := by omega
      have ho0 : (0 : Int) ≤ (o : Int) := by omega
      have T := intTy
      have eg : ∀ args w, (callFunc 50 args).run Try.prog w = .ok (.enter 50 args) w := (Go.Proofs.enters_of Try.func50 (by kernel_rfl) rfl)
      rw [← idxTo_all] at hrun
      have HRUN := Lib.hid hrun
      have HXB := Lib.hid hxb
      have HSUM := Lib.hid hsum
      have hsl : ∀ q, q ≤ x.length → 0 ≤ sumTo (nth x) q ∧ sumTo (nth x) q ≤ 16000 := fun q hq => by
        have := sumTo_bd (f := nth x) (c := 1000) hxb q
        omega
      have HSL := Lib.hid hsl
      have q1 : (sumTo (nth x) x.length == F + 1) = true := by unfold sumL at hsum; simpa using hsum
      clear hr hO hrun hS hxb hsum hxl h5 hL hsl
      go_enter Try.func14, Try.ntmps14
      go_wp2_with fail
      refine (alive20_calls _).mono ?_
      rintro _ w1 ⟨rfl, g1⟩
      have B0 := box_cell g1 (i := 0) rfl
      have B1 := box_cell g1 (i := 1) rfl
      go_wp2_with fail
      refine (Replay_calls _ _ N i o seq _ (by (repeat (first | assumption | refine NetR.gr ?_ (show Gr _ _ from by assumption) | apply NetR.alloc | apply NetR.drew))) hi ho (by (repeat (first | assumption | exact Ints.nil _ | (refine Ints.lit ?_ rfl rfl rfl ?_ ?_; ((focus (simp; done))); all_goals decide) | apply Ints.alloc | apply Ints.drew | refine Ints.gr ?_ (show Gr _ _ from by assumption)))) (by omega)).mono ?_
      rw [HR.out]; rintro _ w2 ⟨rfl, g2⟩
      replace B0 := cell_gr B0 g2
      replace B1 := cell_gr B1 g2
      have G2 : Gr w w2 := by (repeat (first | exact Gr.refl _ | assumption | apply Gr.alloc | apply Gr.drew | apply Gr.drewN | refine Gr.trans ?_ (by assumption)))
      have K4 : NetR w2 (.agg #[.int .i64 N.places, .slice a N.trans.length cap]) N := by (repeat (first | assumption | refine NetR.gr ?_ (show Gr _ _ from by assumption) | apply NetR.alloc | apply NetR.drew))
      have K2 : Ints w2 (.slice sa seq.length sc) seq := by (repeat (first | assumption | exact Ints.nil _ | (refine Ints.lit ?_ rfl rfl rfl ?_ ?_; ((focus (simp; done))); all_goals decide) | apply Ints.alloc | apply Ints.drew | refine Ints.gr ?_ (show Gr _ _ from by assumption)))
      clear g1 g2
      go_wp2_with fail
      have RX0 : Gr w2 (w2.alloc (.cells #[.int .i64 P, .int .i64 T', .int .i64 0, .int .i64 F] 32)) := (Gr.refl _).alloc _
      have RX1 : (w2.alloc (.cells #[.int .i64 P, .int .i64 T', .int .i64 0, .int .i64 F] 32)).cell? ⟨w2.heap.size, 3, none⟩ = some (.int .i64 F) := box_cell (Gr.refl _) (i := 3) rfl
      generalize hwo : w2.alloc (.cells #[.int .i64 P, .int .i64 T', .int .i64 0, .int .i64 F] 32) = wo at RX0 RX1 ⊢
      go_loopw [11, 38] (fun sv q wr => ∃ k : Nat, k ≤ seq.length ∧ q = .int .i64 k ∧ OwnI 3 wo.heap.size wr sv (idxTo N seq k) ∧ Gr wo wr) (fun _ q _ => seq.length - (intOf q).toNat)
      case atStart => exact ⟨0, Nat.zero_le _, rfl, by rw [idxTo_zero]; exact OwnI.nil _ _ _, Gr.refl _⟩
      case round =>
        rename_i wr
        obtain ⟨k, hk, rfl, hown, hgr⟩ := hrel
        have G0 : Gr w2 wr := RX0.trans hgr
        have KH := hT.gr (G2.trans G0)
        have hlen := idxTo_len (N := N) hk
        by_cases hlt : k < seq.length
        · obtain ⟨tb, to, rfl, ct⟩ := (K2.gr G0).cell hlt
          have W1 : Gr wr (wr.alloc (.cells #[.int .i64 (nth seq k)] 3)) := (Gr.refl _).alloc _
          have C1 := cell_gr (cell_gr B1 G0) W1
          have hx : (wr.alloc (.cells #[.int .i64 (nth seq k)] 3)).cell? ⟨wr.heap.size, 0, none⟩ = some (.int .i64 (nth seq k)) := box_cell (Gr.refl _) (i := 0) rfl
          have hcall := IndexFuncTr_calls (.slice a N.trans.length cap) N.trans 50 #[.pointer (some ⟨wr.heap.size, 0, none⟩)] (fun t => decide (t.label = nth seq k)) (wr.alloc (.cells #[.int .i64 (nth seq k)] 3)) eg (KH.gr W1) (ReplayRun1_answers _ _ _ _ hx)
          have hsu := idxTo_succ (N := N) hlt
          obtain ⟨f, hf⟩ : ∃ f, f = firstI (fun t => decide (t.label = nth seq k)) N.trans := ⟨_, rfl⟩
          have hfg := firstI_ge (fun t => decide (t.label = nth seq k)) N.trans
          have hfl := firstI_lt (fun t => decide (t.label = nth seq k)) N.trans
          have hI : I64 f := by
            rw [hf]; unfold I64
            rcases hfl with h | h
            · omega
            · rw [h, firstI_nil]; decide
          rw [← hf] at hcall hsu
          have HLN := Lib.hid hsu
          clear hf hfg hfl hsu
          go_wp2_with fail
          refine hcall.mono ?_
          rintro _ w6 ⟨rfl, g6⟩
          have G6 : Gr wr w6 := W1.trans g6
          go_wp2_with (at_builtin; refine app_int T _ _ wo.heap.size _ (idxTo N seq k) ⟨w6.heap.size, 0, none⟩ f (by rfl) (by rfl) (by rfl) (by rfl) ((hown.gr G6).alloc _) (lit_cell (by simp)) hI (by omega) (by have := (hgr.trans G6).le; simp at this ⊢; omega) ?_; intro v' w' ho' hg' _ _)
          go_roundw
          case rel => exact ⟨k + 1, by omega, by go_num, by rw [HLN.out]; exact ho', hg' wo (Nat.le_refl _) (by (repeat (first | exact Gr.refl _ | assumption | apply Gr.alloc | apply Gr.drew | apply Gr.drewN | refine Gr.trans ?_ (by assumption))))⟩
          case measure => simp [intOf]; omega
        · obtain rfl : k = seq.length := by omega
          have K5 := K4.gr G0
          have C0 := cell_gr B0 G0
          have C1 := cell_gr B1 G0
          obtain ⟨va, vc, rfl, vl, vl'⟩ := hown.ints.len
          have K7 := hown.ints
          rw [hlen] at K7
          go_wp2_with fail
          go_region_held3 (fun w' => w'.cell? ⟨w.heap.size, 0, none⟩ = some (.int .i64 N.places) ∧ w'.cell? ⟨w.heap.size, 1, none⟩ = some (.slice a N.trans.length cap)) (first | go_keep | ((refine ⟨cell_gr C0 ?_, cell_gr C1 ?_⟩); ((focus ((repeat (first | exact Gr.refl _ | assumption | apply Gr.alloc | apply Gr.drew | apply Gr.drewN | refine Gr.trans ?_ (by assumption))); done))); ((focus ((repeat (first | exact Gr.refl _ | assumption | apply Gr.alloc | apply Gr.drew | apply Gr.drewN | refine Gr.trans ?_ (by assumption))); done))))) (first | (go_at_call 41; (with_reducible refine (Start_calls _ N _ _ (K5.gr ?_) hi).mono ?_); ((focus ((repeat (first | exact Gr.refl _ | assumption | apply Gr.alloc | apply Gr.drew | apply Gr.drewN | refine Gr.trans ?_ (by assumption))); done))); rintro _ w3 ⟨v3, rfl, o3, g3⟩) | (go_at_call 36; (with_reducible refine (Run_calls _ _ _ N _ (idxTo N seq seq.length) _ (K5.gr ?_) (o3.ints.gr ?_) (K7.gr ?_)).mono ?_); ((focus ((repeat (first | exact Gr.refl _ | assumption | apply Gr.alloc | apply Gr.drew | apply Gr.drewN | refine Gr.trans ?_ (by assumption))); done))); ((focus ((repeat (first | exact Gr.refl _ | assumption | apply Gr.alloc | apply Gr.drew | apply Gr.drewN | refine Gr.trans ?_ (by assumption))); done))); ((focus ((repeat (first | exact Gr.refl _ | assumption | apply Gr.alloc | apply Gr.drew | apply Gr.drewN | refine Gr.trans ?_ (by assumption))); done))); rw [HRUN.out]; rintro _ w4 ⟨v4, rfl, i4, g4⟩))
          have G34 : Gr wr w4 := by (repeat (first | exact Gr.refl _ | assumption | apply Gr.alloc | apply Gr.drew | apply Gr.drewN | refine Gr.trans ?_ (by assumption)))
          have G4 : Gr w w4 := (G2.trans G0).trans G34
          clear g3 g4
          obtain ⟨a4, c4, rfl, _, _⟩ := i4.len
          go_wp2_with fail
          go_loopw [16, 61] (fun sm q wq => ∃ j : Nat, j ≤ x.length ∧ q = .int .i64 j ∧ sm = .int .i64 (sumTo (nth x) j) ∧ Gr w4 wq) (fun _ q _ => x.length - (intOf q).toNat)
          case atStart => exact ⟨0, Nat.zero_le _, rfl, by rw [sumTo_zero], by (repeat (first | exact Gr.refl _ | assumption | apply Gr.alloc | apply Gr.drew | apply Gr.drewN | refine Gr.trans ?_ (by assumption)))⟩
          case round =>
            rename_i wq
            obtain ⟨j, hj, rfl, rfl, gq⟩ := hrel
            replace i4 := i4.gr gq
            have RX2 := cell_gr RX1 (hgr.trans (G34.trans gq))
            by_cases hlt2 : j < x.length
            · obtain ⟨xb, xo, rfl, xc⟩ := i4.cell hlt2
              have h1 := HSL.out j hj
              have h3 := HXB.out j
              go_wp2_with fail
              go_roundw
              case rel => exact ⟨j + 1, by omega, by go_num, by rw [sumTo_succ], gq⟩
              case measure => simp [intOf]; omega
            · obtain rfl : j = x.length := by omega
              obtain ⟨xb, xo, rfl, xc⟩ := i4.cell hoL
              have h1 := HSL.out _ (Nat.le_refl _)
              go_wp2_with fail
              go_ret
              exact ⟨rfl, G4.trans gq⟩
end Go.Proofs.Ytmigejcejnofiaa
