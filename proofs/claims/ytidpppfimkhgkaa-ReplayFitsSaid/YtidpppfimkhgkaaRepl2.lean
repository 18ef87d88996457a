/- Contract of replay.Replay. -/
import Derived.Test.YtidpppfimkhgkaaRepl
namespace Go.Proofs.Ytidpppfimkhgkaa
open Go.RowKit Go.Tok
set_option linter.unusedVariables false

set_option maxRecDepth 100000 in
theorem Replay1_answers (w0 : World) (xb : Nat) (x : Int) (ts : List TranD) (hx : w0.cell? ⟨xb, 0, none⟩ = some (.int .i64 x)) :
    AnswersTr Try.prog 86 #[.pointer (some ⟨xb, 0, none⟩)] ts (fun t => decide (t.label = x)) w0 := by
  intro W vp vq t ht g hlab hp hq
  obtain ⟨pa, pc, rfl, _, _⟩ := hp.len
  obtain ⟨qa, qc, rfl, _, _⟩ := hq.len
  have hx' := cell_gr (cell_gr hx g) ((Gr.refl W).alloc (.cells #[.int .i64 t.label, .slice pa t.pre.length pc, .slice qa t.post.length qc] 34))
  go_enter Try.func86, Try.ntmps86
  go_wp2_with fail
  go_ret
  exact ⟨ret_bool (by rw [Bool.eq_iff_iff]; simp), by (repeat (first | exact Gr.refl _ | assumption | apply Gr.alloc | apply Gr.drew | apply Gr.drewN | refine Gr.trans ?_ (by assumption)))⟩

def RetP (w : World) (r : PlayD × Int) (e : Ending) (w' : World) : Prop := e = .returned (.tuple #[.agg #[.int .i64 r.1.put, .int .i64 r.1.taken, .int .i64 r.1.lacked, .int .i64 r.1.left], .int .i64 r.2]) ∧ Gr w w'
theorem RetP.mk {w w' : World} {r : PlayD × Int} {p q l f e : Int} (h : r = (⟨p, q, l, f⟩, e)) (g : Gr w w') : RetP w r (.returned (.tuple #[.agg #[.int .i64 p, .int .i64 q, .int .i64 l, .int .i64 f], .int .i64 e])) w' := by subst h; exact ⟨rfl, g⟩

set_option maxHeartbeats 4000000 in
set_option maxRecDepth 100000 in
theorem Replay_calls (v u : Value) (N : NetD) (i o : Int) (tr : List Int) (w : World) (hN : NetR w v N) (hi : I64 i) (ho : I64 o) (hu : Ints w u tr) (ht : tr.length ≤ 17592186043904) :
    Calls Try.prog 35 #[v, .int .i64 i, .int .i64 o, u] w (RetP w (replF N i o tr)) := by
  have hN' := hN
  obtain ⟨a, cap, rfl, hnl, hncap, hpl, hT⟩ := hN.open_
  have hpl1 := hpl.1
  have hpl2 := hpl.2
  obtain ⟨ua, uc, rfl, ul, ul'⟩ := hu.len
  by_cases h0 : shapeC N i o = 0
  case neg =>
    have HC := Lib.hid (repl_shape (tr := tr) h0)
    obtain ⟨c, hc⟩ : ∃ c, c = shapeC N i o := ⟨_, rfl⟩
    rw [← hc] at HC h0
    have e0 := hc.symm
    have q1 : (c != 0) = true := by simpa using h0
    clear h0 hc
    have b0 : Blk ((w.alloc (.cells #[.int .i64 N.places, .slice a N.trans.length cap] 28)).alloc (.cells #[.int .i64 0, .int .i64 0, .int .i64 0, .int .i64 0] 78)) w.heap.size 28 #[.int .i64 N.places, .slice a N.trans.length cap] := (Blk.new rfl).gr ((Gr.refl _).alloc _)
    have b1 : Blk ((w.alloc (.cells #[.int .i64 N.places, .slice a N.trans.length cap] 28)).alloc (.cells #[.int .i64 0, .int .i64 0, .int .i64 0, .int .i64 0] 78)) (w.heap.size + 1) 78 #[.int .i64 0, .int .i64 0, .int .i64 0, .int .i64 0] := Blk.new (by simp)
    go_enter Try.func35, Try.ntmps35
    go_wp2_with fail
    refine (ShapeWrong_calls _ N _ _ _ (hN.gr (by (repeat (first | exact Gr.refl _ | assumption | apply Gr.alloc | apply Gr.drew | apply Gr.drewN | refine Gr.trans ?_ (by assumption))))) hi ho).mono ?_
    rw [e0]; rintro _ w1 ⟨rfl, g1⟩
    replace b0 := b0.gr g1
    replace b1 := b1.gr g1
    have gw : Gr w w1 := by (repeat (first | exact Gr.refl _ | assumption | apply Gr.alloc | apply Gr.drew | apply Gr.drewN | refine Gr.trans ?_ (by assumption)))
    clear g1
    have C0 := b0.cell (i := 0) rfl
    have C1 := b0.cell (i := 1) rfl
    have F0 := b1.frozen 0
    have D00 := b1.cell (i := 0) rfl
    have D01 := b1.cell (i := 1) rfl
    have D02 := b1.cell (i := 2) rfl
    have D03 := b1.cell (i := 3) rfl
    have s1 := b1.set 0 (.int .i64 0)
    have F1 := s1.frozen 1
    have D11 := s1.cell (i := 1) rfl
    have D12 := s1.cell (i := 2) rfl
    have D13 := s1.cell (i := 3) rfl
    have s2 := s1.set 1 (.int .i64 0)
    have F2 := s2.frozen 2
    have D22 := s2.cell (i := 2) rfl
    have D23 := s2.cell (i := 3) rfl
    have s3 := s2.set 2 (.int .i64 0)
    have F3 := s3.frozen 3
    have D33 := s3.cell (i := 3) rfl
    have s4 := s3.set 3 (.int .i64 0)
    have E0 := s4.cell (i := 0) rfl
    have E1 := s4.cell (i := 1) rfl
    have E2 := s4.cell (i := 2) rfl
    have E3 := s4.cell (i := 3) rfl
    go_wp2_with fail
    refine bodyPost_ret (v := .tuple #[.agg #[.int .i64 0, .int .i64 0, .int .i64 0, .int .i64 0], .int .i64 c]) (by simp [results, Try.results35, go_sem, E0, E1, E2, E3]) rfl ?_
    exact RetP.mk HC.out ((((gw.setCell (by simp) _).setCell (by simp) _).setCell (by simp) _).setCell (by simp) _)
  case pos =>
    have e0 := h0
    obtain ⟨i, o, rfl, rfl, hO⟩ := shape_ok h0
    have h24 := netOk_n24 hO.ok
    have h16 := netOk_p16 hO.ok
    cases e1 : plainB N
    case false =>
      have HC := Lib.hid (repl_plain (tr := tr) h0 e1)
      clear h0 hO
      have b0 : Blk ((w.alloc (.cells #[.int .i64 N.places, .slice a N.trans.length cap] 28)).alloc (.cells #[.int .i64 0, .int .i64 0, .int .i64 0, .int .i64 0] 78)) w.heap.size 28 #[.int .i64 N.places, .slice a N.trans.length cap] := (Blk.new rfl).gr ((Gr.refl _).alloc _)
      have b1 : Blk ((w.alloc (.cells #[.int .i64 N.places, .slice a N.trans.length cap] 28)).alloc (.cells #[.int .i64 0, .int .i64 0, .int .i64 0, .int .i64 0] 78)) (w.heap.size + 1) 78 #[.int .i64 0, .int .i64 0, .int .i64 0, .int .i64 0] := Blk.new (by simp)
      go_enter Try.func35, Try.ntmps35
      go_wp2_with fail
      refine (ShapeWrong_calls _ N _ _ _ (hN.gr (by (repeat (first | exact Gr.refl _ | assumption | apply Gr.alloc | apply Gr.drew | apply Gr.drewN | refine Gr.trans ?_ (by assumption))))) hi ho).mono ?_
      rw [e0]; rintro _ w1 ⟨rfl, g1⟩
      replace b0 := b0.gr g1
      replace b1 := b1.gr g1
      have gw : Gr w w1 := by (repeat (first | exact Gr.refl _ | assumption | apply Gr.alloc | apply Gr.drew | apply Gr.drewN | refine Gr.trans ?_ (by assumption)))
      clear g1
      have C0 := b0.cell (i := 0) rfl
      have C1 := b0.cell (i := 1) rfl
      go_wp2_with fail
      refine (plain_calls _ N _ (hN.gr (by (repeat (first | exact Gr.refl _ | assumption | apply Gr.alloc | apply Gr.drew | apply Gr.drewN | refine Gr.trans ?_ (by assumption))))) h24).mono ?_
      rw [e1]; rintro _ w2 ⟨rfl, g2⟩
      replace b0 := b0.gr g2
      replace b1 := b1.gr g2
      replace gw := gw.trans g2
      have C0 := b0.cell (i := 0) rfl
      have C1 := b0.cell (i := 1) rfl
      clear g2
      have F0 := b1.frozen 0
      have D00 := b1.cell (i := 0) rfl
      have D01 := b1.cell (i := 1) rfl
      have D02 := b1.cell (i := 2) rfl
      have D03 := b1.cell (i := 3) rfl
      have s1 := b1.set 0 (.int .i64 0)
      have F1 := s1.frozen 1
      have D11 := s1.cell (i := 1) rfl
      have D12 := s1.cell (i := 2) rfl
      have D13 := s1.cell (i := 3) rfl
      have s2 := s1.set 1 (.int .i64 0)
      have F2 := s2.frozen 2
      have D22 := s2.cell (i := 2) rfl
      have D23 := s2.cell (i := 3) rfl
      have s3 := s2.set 2 (.int .i64 0)
      have F3 := s3.frozen 3
      have D33 := s3.cell (i := 3) rfl
      have s4 := s3.set 3 (.int .i64 0)
      have E0 := s4.cell (i := 0) rfl
      have E1 := s4.cell (i := 1) rfl
      have E2 := s4.cell (i := 2) rfl
      have E3 := s4.cell (i := 3) rfl
      go_wp2_with fail
      refine bodyPost_ret (v := .tuple #[.agg #[.int .i64 0, .int .i64 0, .int .i64 0, .int .i64 0], .int .i64 1]) (by simp [results, Try.results35, go_sem, E0, E1, E2, E3]) rfl ?_
      exact RetP.mk HC.out ((((gw.setCell (by simp) _).setCell (by simp) _).setCell (by simp) _).setCell (by simp) _)
    case true =>
      by_cases hl : 60 < tr.length
      · have HC := Lib.hid (repl_long h0 e1 hl)
        clear h0 hO
        have b0 : Blk ((w.alloc (.cells #[.int .i64 N.places, .slice a N.trans.length cap] 28)).alloc (.cells #[.int .i64 0, .int .i64 0, .int .i64 0, .int .i64 0] 78)) w.heap.size 28 #[.int .i64 N.places, .slice a N.trans.length cap] := (Blk.new rfl).gr ((Gr.refl _).alloc _)
        have b1 : Blk ((w.alloc (.cells #[.int .i64 N.places, .slice a N.trans.length cap] 28)).alloc (.cells #[.int .i64 0, .int .i64 0, .int .i64 0, .int .i64 0] 78)) (w.heap.size + 1) 78 #[.int .i64 0, .int .i64 0, .int .i64 0, .int .i64 0] := Blk.new (by simp)
        go_enter Try.func35, Try.ntmps35
        go_wp2_with fail
        refine (ShapeWrong_calls _ N _ _ _ (hN.gr (by (repeat (first | exact Gr.refl _ | assumption | apply Gr.alloc | apply Gr.drew | apply Gr.drewN | refine Gr.trans ?_ (by assumption))))) hi ho).mono ?_
        rw [e0]; rintro _ w1 ⟨rfl, g1⟩
        replace b0 := b0.gr g1
        replace b1 := b1.gr g1
        have gw : Gr w w1 := by (repeat (first | exact Gr.refl _ | assumption | apply Gr.alloc | apply Gr.drew | apply Gr.drewN | refine Gr.trans ?_ (by assumption)))
        clear g1
        have C0 := b0.cell (i := 0) rfl
        have C1 := b0.cell (i := 1) rfl
        go_wp2_with fail
        refine (plain_calls _ N _ (hN.gr (by (repeat (first | exact Gr.refl _ | assumption | apply Gr.alloc | apply Gr.drew | apply Gr.drewN | refine Gr.trans ?_ (by assumption))))) h24).mono ?_
        rw [e1]; rintro _ w2 ⟨rfl, g2⟩
        replace b0 := b0.gr g2
        replace b1 := b1.gr g2
        replace gw := gw.trans g2
        have C0 := b0.cell (i := 0) rfl
        have C1 := b0.cell (i := 1) rfl
        clear g2
        have F0 := b1.frozen 0
        have D00 := b1.cell (i := 0) rfl
        have D01 := b1.cell (i := 1) rfl
        have D02 := b1.cell (i := 2) rfl
        have D03 := b1.cell (i := 3) rfl
        have s1 := b1.set 0 (.int .i64 0)
        have F1 := s1.frozen 1
        have D11 := s1.cell (i := 1) rfl
        have D12 := s1.cell (i := 2) rfl
        have D13 := s1.cell (i := 3) rfl
        have s2 := s1.set 1 (.int .i64 0)
        have F2 := s2.frozen 2
        have D22 := s2.cell (i := 2) rfl
        have D23 := s2.cell (i := 3) rfl
        have s3 := s2.set 2 (.int .i64 0)
        have F3 := s3.frozen 3
        have D33 := s3.cell (i := 3) rfl
        have s4 := s3.set 3 (.int .i64 0)
        have E0 := s4.cell (i := 0) rfl
        have E1 := s4.cell (i := 1) rfl
        have E2 := s4.cell (i := 2) rfl
        have E3 := s4.cell (i := 3) rfl
        go_wp2_with fail
        refine bodyPost_ret (v := .tuple #[.agg #[.int .i64 0, .int .i64 0, .int .i64 0, .int .i64 0], .int .i64 2]) (by simp [results, Try.results35, go_sem, E0, E1, E2, E3]) rfl ?_
        exact RetP.mk HC.out ((((gw.setCell (by simp) _).setCell (by simp) _).setCell (by simp) _).setCell (by simp) _)
      · have hl' : tr.length ≤ 60 := by omega
        have hlB : decide (60 < (tr.length : Int)) = false := by simp; omega
        have T := intTy
        have eg : ∀ args w, (callFunc 86 args).run Try.prog w = .ok (.enter 86 args) w := (Go.Proofs.enters_of Try.func86 (by kernel_rfl) rfl)
        have hPN : N.places = (N.places.toNat : Int) := by omega
        have hPN2 : N.places.toNat ≤ 16 := by omega
        have HI := Lib.hid (in_b hO.hi)
        have HWI := Lib.hid (wts_one hO.hi)
        have HWO := Lib.hid (wts_one hO.ho)
        have HSL := Lib.hid (startLen_ok hO.ok)
        have HOK := Lib.hid hO.ok
        have HN := Lib.hid (fun h => repl_none (N := N) (i := i) (o := o) (tr := tr) h0 e1 hl' h)
        have HS := Lib.hid (fun s h => repl_some (N := N) (i := i) (o := o) (tr := tr) (s := s) h0 e1 hl' h)
        clear h0 hO hl
        obtain ⟨n, hn⟩ : ∃ n, n = N.places.toNat := ⟨_, rfl⟩
        rw [← hn] at hPN hPN2 HI HWI HWO HSL
        have HNN := Lib.hid hn
        have HPN := Lib.hid hPN
        clear hn hPN
        have b0 : Blk ((w.alloc (.cells #[.int .i64 N.places, .slice a N.trans.length cap] 28)).alloc (.cells #[.int .i64 0, .int .i64 0, .int .i64 0, .int .i64 0] 78)) w.heap.size 28 #[.int .i64 N.places, .slice a N.trans.length cap] := (Blk.new rfl).gr ((Gr.refl _).alloc _)
        have b1 : Blk ((w.alloc (.cells #[.int .i64 N.places, .slice a N.trans.length cap] 28)).alloc (.cells #[.int .i64 0, .int .i64 0, .int .i64 0, .int .i64 0] 78)) (w.heap.size + 1) 78 #[.int .i64 0, .int .i64 0, .int .i64 0, .int .i64 0] := Blk.new (by simp)
        go_enter Try.func35, Try.ntmps35
        go_wp2_with fail
        refine (ShapeWrong_calls _ N _ _ _ (hN.gr (by (repeat (first | exact Gr.refl _ | assumption | apply Gr.alloc | apply Gr.drew | apply Gr.drewN | refine Gr.trans ?_ (by assumption))))) hi ho).mono ?_
        rw [e0]; rintro _ w1 ⟨rfl, g1⟩
        replace b0 := b0.gr g1
        replace b1 := b1.gr g1
        have gw : Gr w w1 := by (repeat (first | exact Gr.refl _ | assumption | apply Gr.alloc | apply Gr.drew | apply Gr.drewN | refine Gr.trans ?_ (by assumption)))
        clear g1
        have C0 := b0.cell (i := 0) rfl
        have C1 := b0.cell (i := 1) rfl
        go_wp2_with fail
        refine (plain_calls _ N _ (hN.gr (by (repeat (first | exact Gr.refl _ | assumption | apply Gr.alloc | apply Gr.drew | apply Gr.drewN | refine Gr.trans ?_ (by assumption))))) h24).mono ?_
        rw [e1]; rintro _ w2 ⟨rfl, g2⟩
        replace b0 := b0.gr g2
        replace b1 := b1.gr g2
        replace gw := gw.trans g2
        have C0 := b0.cell (i := 0) rfl
        have C1 := b0.cell (i := 1) rfl
        clear g2
        go_wp2_with (at_make; refine mk_ints T _ _ w2.heap.size n _ _ rfl rfl rfl rfl HPN.out HPN.out (by omega) (Nat.le_refl _) ?_; intro w3 hown hb hlt; have C0 := fun o => cell_gr (cell_gr C0 hb) ((Gr.refl w3).alloc o); have C1 := fun o => cell_gr (cell_gr C1 hb) ((Gr.refl w3).alloc o))
        have GA : Gr w2 (w3.alloc (.cells #[.int .i64 0, .int .i64 0, .int .i64 0, .int .i64 0, .slice (some ⟨w2.heap.size, 0, none⟩) n n] 174)) := by (repeat (first | exact Gr.refl _ | assumption | apply Gr.alloc | apply Gr.drew | apply Gr.drewN | refine Gr.trans ?_ (by assumption)))
        refine (Start_calls _ N _ _ (hN.gr (gw.trans GA)) hi).mono ?_
        rw [HSL.out]
        rintro _ w4 ⟨v4, rfl, o4, g4⟩
        have K0 : Cnt w4 w3.heap.size w2.heap.size n n w2.heap.size ⟨0, 0, 0, List.replicate n 0⟩ 0 := (Cnt.mk (Blk.new rfl) (hown.alloc _) (by simp) (by omega) (Nat.le_of_lt hlt) (Nat.le_refl _) ⟨Nat.le_refl _, by omega⟩).gr g4
        have O4 : On (Rest w3.heap.size w2.heap.size) (fun w => Ints w v4 (oneN n (i : Int))) w4 := (Ints.on_own o4).mono (fun b _ hb => by have := (o4.lt hb).1; simp at this; exact ⟨by omega, by omega⟩)
        have G4 : Gr w2 w4 := GA.trans g4
        generalize hbx : w3.heap.size = bx at K0 O4 hlt
        have HBX := Lib.hid hbx
        go_wp2_with fail
        refine (put_calls _ _ n n _ _ 0 v4 _ _ K0 O4 HWI.out hPN2 ((zero_b n).mono (by omega) (by omega))).mono ?_
        rintro _ w5 ⟨rfl, K5, r5⟩
        have G5 : Gr w2 w5 := r5.gr (Nat.le_refl _) G4
        have K5' : Cnt w5 bx w2.heap.size n n w2.heap.size (repIn N i) 0 := by unfold repIn; rw [← HNN.out]; exact K5
        replace C0 := cell_gr (b0.cell (i := 0) rfl) G5
        replace C1 := cell_gr (b0.cell (i := 1) rfl) G5
        clear K5 K0 O4 o4 g4 G4 GA r5 hown hb
        go_wp2_with fail
        have KH := hT.gr gw
        have KU := hu.gr gw
        go_loopw [45] (fun q wr => ∃ (k : Nat) (s : RepS), k ≤ tr.length ∧ q = .int .i64 k ∧ Cnt wr bx w2.heap.size n n w2.heap.size s 0 ∧ RepB s n (9 + 9 * k) (9 * n + 18 * n * k) ∧ RepTo N (repIn N i) tr k s ∧ Gr w2 wr) (fun q _ => tr.length - (intOf q).toNat)
        case atStart => exact ⟨0, repIn N i, Nat.zero_le _, rfl, K5', by simpa using HI.out, RepTo.zero _ _ _, G5⟩
        case round =>
          rename_i wr
          obtain ⟨k, s, hk, rfl, hc, hB, hR, hgr⟩ := hrel
          replace C0 := cell_gr (b0.cell (i := 0) rfl) hgr
          replace C1 := cell_gr (b0.cell (i := 1) rfl) hgr
          have hbn : n * k ≤ 16 * 60 := Nat.mul_le_mul hPN2 (by omega)
          have hbn2 : (18 : Int) * n * k = 18 * ((n * k : Nat) : Int) := by push_cast; rw [Int.mul_assoc]
          by_cases hlt : k < tr.length
          · obtain ⟨tb, to, rfl, ct⟩ := (KU.gr hgr).cell hlt
            have W1 : Gr wr (wr.alloc (.cells #[.int .i64 (nth tr k)] 3)) := (Gr.refl _).alloc _
            have C1' := cell_gr C1 W1
            have hx : (wr.alloc (.cells #[.int .i64 (nth tr k)] 3)).cell? ⟨wr.heap.size, 0, none⟩ = some (.int .i64 (nth tr k)) := box_cell (Gr.refl _) (i := 0) rfl
            have hR' := Lib.hid hR
            have hB' := Lib.hid hB
            have HBN := Lib.hid hbn2
            clear hR hB hbn2
            have hcall := IndexFuncTr_calls (.slice a N.trans.length cap) N.trans 86 #[.pointer (some ⟨wr.heap.size, 0, none⟩)] (fun t => decide (t.label = nth tr k)) (wr.alloc (.cells #[.int .i64 (nth tr k)] 3)) eg (KH.gr (hgr.trans W1)) (Replay1_answers _ _ _ _ hx)
            obtain ⟨f, hf⟩ : ∃ f, f = firstI (fun t => decide (t.label = nth tr k)) N.trans := ⟨_, rfl⟩
            have hfg := firstI_ge (fun t => decide (t.label = nth tr k)) N.trans
            have hfl := firstI_lt (fun t => decide (t.label = nth tr k)) N.trans
            rw [← hf] at hcall hfg hfl
            have HF := Lib.hid hf
            clear hf
            by_cases hneg : f = -1
            · subst hneg
              have HC := Lib.hid (HN.out (hR'.out.miss hlt HF.out.symm))
              go_wp2_with fail
              refine hcall.mono ?_
              rintro _ w6 ⟨rfl, g6⟩
              have G6 : Gr w2 w6 := by (repeat (first | exact Gr.refl _ | assumption | apply Gr.alloc | apply Gr.drew | apply Gr.drewN | refine Gr.trans ?_ (by assumption)))
              replace gw := gw.trans G6
              replace b1 := b1.gr G6
              have F0 := b1.frozen 0
              have D00 := b1.cell (i := 0) rfl
              have D01 := b1.cell (i := 1) rfl
              have D02 := b1.cell (i := 2) rfl
              have D03 := b1.cell (i := 3) rfl
              have s1 := b1.set 0 (.int .i64 0)
              have F1 := s1.frozen 1
              have D11 := s1.cell (i := 1) rfl
              have D12 := s1.cell (i := 2) rfl
              have D13 := s1.cell (i := 3) rfl
              have s2 := s1.set 1 (.int .i64 0)
              have F2 := s2.frozen 2
              have D22 := s2.cell (i := 2) rfl
              have D23 := s2.cell (i := 3) rfl
              have s3 := s2.set 2 (.int .i64 0)
              have F3 := s3.frozen 3
              have D33 := s3.cell (i := 3) rfl
              have s4 := s3.set 3 (.int .i64 0)
              have E0 := s4.cell (i := 0) rfl
              have E1 := s4.cell (i := 1) rfl
              have E2 := s4.cell (i := 2) rfl
              have E3 := s4.cell (i := 3) rfl
              go_wp2_with fail
              refine bodyPost_ret (v := .tuple #[.agg #[.int .i64 0, .int .i64 0, .int .i64 0, .int .i64 0], .int .i64 3]) (by simp [results, Try.results35, go_sem, E0, E1, E2, E3]) rfl ?_
              exact RetP.mk HC.out ((((gw.setCell (by simp) _).setCell (by simp) _).setCell (by simp) _).setCell (by simp) _)
            · obtain ⟨j, rfl⟩ := Int.eq_ofNat_of_zero_le (show 0 ≤ f by omega)
              have hj : j < N.trans.length := by
                rcases hfl with h | h
                · omega
                · exfalso
                  have h2 := HF.out
                  rw [h] at h2
                  simp [firstI_nil] at h2
              clear hfg hfl hneg
              have HRN := Lib.hid (hR'.out.hit hlt HF.out.symm)
              obtain ⟨pb, po, vp, vq, rfl, c0, c1, c2, hlab, hp, hq⟩ := KH.at_ hj
              have WP := wts_pre HOK.out hj
              have WQ := wts_post HOK.out hj
              rw [← HNN.out] at WP WQ
              have HWP := Lib.hid WP
              have HWQ := Lib.hid WQ
              clear WP WQ
              have j1 : (0 : Int) ≤ (j : Int) := by omega
              have j2 : (j : Int) < (N.trans.length : Int) := by omega
              obtain ⟨pa, pc, rfl, _, _⟩ := hp.len
              obtain ⟨qa, qc, rfl, _, _⟩ := hq.len
              go_wp2_with fail
              refine hcall.mono ?_
              rintro _ w6 ⟨rfl, g6⟩
              have G6 : Gr w2 w6 := by (repeat (first | exact Gr.refl _ | assumption | apply Gr.alloc | apply Gr.drew | apply Gr.drewN | refine Gr.trans ?_ (by assumption)))
              have hc6 := hc.gr (W1.trans g6)
              have D0 := cell_gr (b0.cell (i := 0) rfl) G6
              have D1 := cell_gr (b0.cell (i := 1) rfl) G6
              have E1 := cell_gr c1 G6
              go_wp2_with fail
              refine (take_calls _ _ n n _ s 0 _ _ _ hc6 (hp.on_gr G6 (fun b' hb' => ⟨by omega, by omega⟩)) HWP.out hPN2 (hB'.out.mono (by omega) (by rw [HBN.out]; omega))).mono ?_
              rintro _ w7 ⟨rfl, hc7, r7⟩
              have G7 : Gr w2 w7 := r7.gr (Nat.le_refl _) G6
              replace D0 := cell_gr (b0.cell (i := 0) rfl) G7
              replace D1 := cell_gr (b0.cell (i := 1) rfl) G7
              replace E1 := cell_gr c2 G7
              go_wp2_with fail
              refine (put_calls _ _ n n _ _ 0 _ _ _ hc7 (hq.on_gr G7 (fun b' hb' => ⟨by omega, by omega⟩)) HWQ.out hPN2 ((take_b hB'.out HWP.out rfl).mono (by omega) (by rw [HBN.out]; omega))).mono ?_
              rintro _ w8 ⟨rfl, hc8, r8⟩
              have G8 : Gr w2 w8 := r8.gr (Nat.le_refl _) G7
              go_wp2_with fail
              go_roundw
              case rel =>
                have hst := step_b (b' := 9 + 9 * ((k + 1 : Nat) : Int)) (c' := 9 * n + 18 * n * ((k + 1 : Nat) : Int)) HOK.out hj (by rw [← HNN.out]; exact hB'.out) (by push_cast; omega) (by rw [← HNN.out]; push_cast; rw [Int.mul_add]; omega)
                rw [← HNN.out] at hst
                exact ⟨k + 1, _, by omega, by go_num, hc8, hst, HRN.out, G8⟩
              case measure => simp [intOf]; omega
          · obtain rfl : k = tr.length := by omega
            have HC := Lib.hid (HS.out s (hR.all (Nat.le_refl _)))
            have hB2 := hB.mono (b' := 1000) (c' := 100000 - 200) (by omega) (by rw [hbn2]; omega)
            have HB2 := Lib.hid hB2
            clear hR hB hbn2 hB2
            go_wp2_with fail
            refine (Start_calls _ N _ _ (hN.gr (gw.trans hgr)) ho).mono ?_
            rw [HSL.out]
            rintro _ w6 ⟨v6, rfl, o6, g6⟩
            have hc6 := hc.gr g6
            have G6 : Gr w2 w6 := hgr.trans g6
            have hbw : bx < wr.heap.size := hc.blk.lt
            have O6 : On (Rest bx w2.heap.size) (fun w => Ints w v6 (oneN n (o : Int))) w6 := (Ints.on_own o6).mono (fun b _ hb => by have := (o6.lt hb).1; exact ⟨by omega, by omega⟩)
            go_wp2_with fail
            refine (take_calls _ _ n n _ s 0 _ _ _ hc6 O6 HWO.out hPN2 (HB2.out.mono (by omega) (by omega))).mono ?_
            rintro _ w7 ⟨rfl, hc7, r7⟩
            have G7 : Gr w2 w7 := r7.gr (Nat.le_refl _) G6
            have hB7 := take_b HB2.out HWO.out rfl
            obtain ⟨S, hS⟩ : ∃ S, S = takeS s (oneN n (o : Int)) := ⟨_, rfl⟩
            rw [← hS] at hc7 hB7
            have HSS := Lib.hid hS
            clear hS O6 o6 hc6 r7 G6 g6
            have hlen := hB7.len
            have hsl : ∀ q, q ≤ n → 0 ≤ tokTo (nth S.m) q ∧ tokTo (nth S.m) q ≤ 16000 := fun q hq => by
              have := tokTo_bd (f := nth S.m) (c := 1000) (fun p => by have := hB7.m p; omega) q
              omega
            have HSLL := Lib.hid hsl
            have HLEN := Lib.hid hlen
            have HB7 := Lib.hid hB7
            clear hsl hlen hB7
            have Q4 := hc7.blk.cell (i := 4) rfl
            go_wp2_with fail
            rename_i wq
            go_loopw [83] (fun q wz => ∃ j : Nat, j ≤ n ∧ q = .int .i64 j ∧ Cnt wz bx w2.heap.size n n w2.heap.size S (tokTo (nth S.m) j) ∧ Gr w2 wz) (fun q _ => n - (intOf q).toNat)
            case atStart => exact ⟨0, Nat.zero_le _, rfl, by rw [tokTo_zero]; exact hc7, G7⟩
            case round =>
              rename_i wz
              obtain ⟨j, hj, rfl, hcz, hgz⟩ := hrel
              by_cases hlt2 : j < n
              · have P0 := hcz.own.cell (i := j) (by rw [HLEN.out]; exact hlt2)
                have P3 := hcz.blk.cell (i := 3) rfl
                have PF := hcz.blk.frozen 3
                have m1 := HB7.out.m j
                have m1a := m1.1
                have m1b := m1.2
                have m2 := HSLL.out j hj
                have m2a := m2.1
                have m2b := m2.2
                have i1 : (0 : Int) ≤ (j : Int) := by omega
                have i2 : (j : Int) < (n : Int) := by omega
                clear m1 m2
                go_wp2_with fail
                go_roundw
                case rel =>
                  refine ⟨j + 1, by omega, by go_num, ⟨?_, ?_, hcz.len, hcz.ne, hcz.low, hcz.lowg, hcz.cap⟩, hgz.setCell hcz.low _⟩
                  · rw [tokTo_succ]
                    exact hcz.blk.set 3 _
                  · exact hcz.own.other (by intro e; exact hcz.ne (Option.some.inj e).symm) _
                case measure => simp [intOf]; omega
              · obtain rfl : j = n := by omega
                have P0 := hcz.blk.cell (i := 0) rfl
                have P1 := hcz.blk.cell (i := 1) rfl
                have P2 := hcz.blk.cell (i := 2) rfl
                have P3 := hcz.blk.cell (i := 3) rfl
                replace gw := gw.trans hgz
                replace b1 := b1.gr hgz
                have HCF := Lib.hid (show replF N i o tr = (⟨S.put, S.taken, S.lacked, tokTo (nth S.m) j⟩, 0) from by
                  rw [HC.out, ← HNN.out, ← HSS.out]
                  unfold outS sumL
                  rw [HLEN.out])
                clear HC
                have HC := HCF
                have F0 := b1.frozen 0
                have D00 := b1.cell (i := 0) rfl
                have D01 := b1.cell (i := 1) rfl
                have D02 := b1.cell (i := 2) rfl
                have D03 := b1.cell (i := 3) rfl
                have s1 := b1.set 0 (.int .i64 S.put)
                have F1 := s1.frozen 1
                have D11 := s1.cell (i := 1) rfl
                have D12 := s1.cell (i := 2) rfl
                have D13 := s1.cell (i := 3) rfl
                have s2 := s1.set 1 (.int .i64 S.taken)
                have F2 := s2.frozen 2
                have D22 := s2.cell (i := 2) rfl
                have D23 := s2.cell (i := 3) rfl
                have s3 := s2.set 2 (.int .i64 S.lacked)
                have F3 := s3.frozen 3
                have D33 := s3.cell (i := 3) rfl
                have s4 := s3.set 3 (.int .i64 (tokTo (nth S.m) j))
                have E0 := s4.cell (i := 0) rfl
                have E1 := s4.cell (i := 1) rfl
                have E2 := s4.cell (i := 2) rfl
                have E3 := s4.cell (i := 3) rfl
                go_wp2_with fail
                refine bodyPost_ret (v := .tuple #[.agg #[.int .i64 S.put, .int .i64 S.taken, .int .i64 S.lacked, .int .i64 (tokTo (nth S.m) j)], .int .i64 0]) (by simp [results, Try.results35, go_sem, E0, E1, E2, E3]) rfl ?_
                exact RetP.mk HC.out ((((gw.setCell (by simp) _).setCell (by simp) _).setCell (by simp) _).setCell (by simp) _)
end Go.Proofs.Ytidpppfimkhgkaa
