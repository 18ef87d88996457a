/- Contracts of package replay: put, take, plain, Replay. -/
import Derived.Test.YtidpppfimkhgkaaReplLaw
import Derived.Test.YtidpppfimkhgkaaWr
import Derived.Test.YtidpppfimkhgkaaGM
import Derived.Test.YtidpppfimkhgkaaGS
import Derived.Test.YtidpppfimkhgkaaGN
namespace Go.Proofs.Ytidpppfimkhgkaa
open Go.RowKit Go.Tok
set_option linter.unusedVariables false

/-- a replay's counter in block b, its marks in block g -/
structure Cnt (w : World) (b g n c base : Nat) (s : RepS) (left : Int) : Prop where
  blk : Blk w b 174 #[.int .i64 s.put, .int .i64 s.taken, .int .i64 s.lacked, .int .i64 left, .slice (some ⟨g, 0, none⟩) n c]
  own : OwnI 3 base w (.slice (some ⟨g, 0, none⟩) n c) s.m
  len : s.m.length = n
  ne : b ≠ g
  low : base ≤ b
  lowg : base ≤ g
  cap : n ≤ c ∧ c ≤ 9223372036854775807
theorem Cnt.gr {w w' : World} {b g n c base : Nat} {s : RepS} {left : Int} (h : Cnt w b g n c base s left) (hg : Gr w w') : Cnt w' b g n c base s left := ⟨h.blk.gr hg, h.own.gr hg, h.len, h.ne, h.low, h.lowg, h.cap⟩
def Rest (b g : Nat) : Nat → Prop := fun x => x ≠ b ∧ x ≠ g

set_option maxHeartbeats 1000000 in
set_option maxRecDepth 100000 in
theorem put_calls (b g n c base : Nat) (s : RepS) (left : Int) (vw : Value) (ws : List Int) (w : World) (h : Cnt w b g n c base s left) (hw : On (Rest b g) (fun w => Ints w vw ws) w) (hW : Wts ws n) (hn : n ≤ 16) (hB : RepB s n 1000 100000) :
    Calls Try.prog 84 #[.pointer (some ⟨b, 0, none⟩), vw] w fun e w' => e = .returned (.tuple #[]) ∧ Cnt w' b g n c base (putS s ws) left ∧ Wr (Rest b g) base w w' := by
  obtain ⟨wa, wc, rfl, wl, wl'⟩ := hw.now.len
  have hwl := hW.len
  rw [hwl] at wl hw ⊢
  have hne := h.ne
  have hsum : ∀ k, k ≤ n → 0 ≤ tokTo (nth ws) k ∧ tokTo (nth ws) k ≤ 144 := fun k hk => by
    have := tokTo_bd (f := nth ws) (c := 9) hW.w k
    omega
  have HSUM := Lib.hid hsum
  have HWL := Lib.hid hwl
  clear hsum hwl
  go_enter Try.func84, Try.ntmps84
  go_wp2_with fail
  go_loopw [8] (fun i wr => ∃ k : Nat, k ≤ n ∧ i = .int .i64 k ∧ Cnt wr b g n c base ⟨s.put + tokTo (nth ws) k, s.taken, s.lacked, addM s.m (ws.take k)⟩ left ∧ Wr (Rest b g) base w wr) (fun i _ => n - (intOf i).toNat)
  case atStart => exact ⟨0, Nat.zero_le _, rfl, by rw [tokTo_zero, addM_zero, Int.add_zero]; exact h, Wr.refl _ _ _⟩
  case round =>
    rename_i wr
    obtain ⟨k, hk, rfl, hc, hwr⟩ := hrel
    by_cases hlt : k < n
    · have hlt2 : k < ws.length := by have := HWL.out; omega
      have hlt3 : k < s.m.length := by have := h.len; omega
      have hsr := (hwr.on hw).now
      obtain ⟨wb, wo, rfl, cw⟩ := hsr.cell hlt2
      have C4 := hc.blk.cell (i := 4) rfl
      have C0 := hc.blk.cell (i := 0) rfl
      have CM := hc.own.cell (i := k) (by rw [addM_len]; exact hlt3)
      rw [addM_at hlt3] at CM
      have FM := hc.own.frozen k
      have b1 := hB.m k
      have b1a := b1.1
      have b1b := b1.2
      have b2 := hW.w k
      have b2a := b2.1
      have b2b := b2.2
      have b3 := HSUM.out k hk
      have b3a := b3.1
      have b3b := b3.2
      have b4 := hB.put
      have b4a := b4.1
      have b4b := b4.2
      have i1 : (0 : Int) ≤ (k : Int) := by omega
      have i2 : (k : Int) < (n : Int) := by omega
      have X1 := hc.blk.other (a := ⟨g, k, none⟩) hne (.int .i64 (nth s.m k + nth ws k))
      have D0 := X1.cell (i := 0) rfl
      have FD := X1.frozen 0
      clear b1 b2 b3 b4
      go_wp2_with fail
      go_roundw
      case rel =>
        refine ⟨k + 1, by omega, by go_num, ⟨?_, ?_, ?_, hne, hc.low, hc.lowg, hc.cap⟩, (hwr.set (fun h => h.2 rfl) hc.lowg _).set (fun h => h.1 rfl) hc.low _⟩
        · rw [tokTo_succ, ← Int.add_assoc]
          exact X1.set 0 _
        · rw [addM_succ hlt3]
          exact (hc.own.set k _ (by unfold I64; omega)).other (by intro e; exact hne (Option.some.inj e).symm) _
        · simp only [addM_len]; exact h.len
      case measure => simp [intOf]; omega
    · obtain rfl : k = n := by omega
      go_wp2_with fail
      go_end0
      refine ⟨rfl, ?_, hwr⟩
      have e1 : ws.take k = ws := List.take_of_length_le (by have := HWL.out; omega)
      rw [e1] at hc
      have e2 : sumL ws = tokTo (nth ws) k := by unfold sumL; rw [HWL.out]
      unfold putS
      rw [e2]
      exact hc

set_option maxHeartbeats 1000000 in
set_option maxRecDepth 100000 in
theorem take_calls (b g n c base : Nat) (s : RepS) (left : Int) (vw : Value) (ws : List Int) (w : World) (h : Cnt w b g n c base s left) (hw : On (Rest b g) (fun w => Ints w vw ws) w) (hW : Wts ws n) (hn : n ≤ 16) (hB : RepB s n 1000 100000) :
    Calls Try.prog 87 #[.pointer (some ⟨b, 0, none⟩), vw] w fun e w' => e = .returned (.tuple #[]) ∧ Cnt w' b g n c base (takeS s ws) left ∧ Wr (Rest b g) base w w' := by
  obtain ⟨wa, wc, rfl, wl, wl'⟩ := hw.now.len
  have hwl := hW.len
  rw [hwl] at wl hw ⊢
  have hne := h.ne
  have hm0 : ∀ p, 0 ≤ nth s.m p := fun p => (hB.m p).1
  have hsum : ∀ k, k ≤ n → 0 ≤ tokTo (nth ws) k ∧ tokTo (nth ws) k ≤ 144 := fun k hk => by
    have := tokTo_bd (f := nth ws) (c := 9) hW.w k
    omega
  have hlk : ∀ k, k ≤ n → 0 ≤ lackT s.m ws k ∧ lackT s.m ws k ≤ 144 := fun k hk => by
    have := lackT_wts (m := s.m) hW hm0 k
    omega
  have HSUM := Lib.hid hsum
  have HLK := Lib.hid hlk
  have HM0 := Lib.hid hm0
  have HWL := Lib.hid hwl
  clear hsum hwl hlk hm0
  go_enter Try.func87, Try.ntmps87
  go_wp2_with fail
  go_loopw [9] (fun i wr => ∃ k : Nat, k ≤ n ∧ i = .int .i64 k ∧ Cnt wr b g n c base ⟨s.put, s.taken + tokTo (nth ws) k, s.lacked + lackT s.m ws k, subM s.m (ws.take k)⟩ left ∧ Wr (Rest b g) base w wr) (fun i _ => n - (intOf i).toNat)
  case atStart => exact ⟨0, Nat.zero_le _, rfl, by rw [tokTo_zero, show lackT s.m ws 0 = 0 from tokTo_zero _, subM_zero _ HM0.out, Int.add_zero, Int.add_zero]; exact h, Wr.refl _ _ _⟩
  case round =>
    rename_i wr
    obtain ⟨k, hk, rfl, hc, hwr⟩ := hrel
    by_cases hlt : k < n
    · have hlt2 : k < ws.length := by have := HWL.out; omega
      have hlt3 : k < s.m.length := by have := h.len; omega
      have hsr := (hwr.on hw).now
      obtain ⟨wb, wo, rfl, cw⟩ := hsr.cell hlt2
      have C4 := hc.blk.cell (i := 4) rfl
      have C1 := hc.blk.cell (i := 1) rfl
      have C2 := hc.blk.cell (i := 2) rfl
      have F2 := hc.blk.frozen 2
      have CM := hc.own.cell (i := k) (by rw [subM_len]; exact hlt3)
      rw [subM_at hlt3 HM0.out] at CM
      have FM := hc.own.frozen k
      have b1 := hB.m k
      have b1a := b1.1
      have b1b := b1.2
      have b2 := hW.w k
      have b2a := b2.1
      have b2b := b2.2
      have b3 := HSUM.out k hk
      have b3a := b3.1
      have b3b := b3.2
      have b4 := hB.taken
      have b4a := b4.1
      have b4b := b4.2
      have b5 := HLK.out k hk
      have b5a := b5.1
      have b5b := b5.2
      have b6 := hB.lacked
      have b6a := b6.1
      have b6b := b6.2
      have i1 : (0 : Int) ≤ (k : Int) := by omega
      have i2 : (k : Int) < (n : Int) := by omega
      clear b1 b2 b3 b4 b5 b6
      have hs2 := subM_succ (ws := ws) hlt3 HM0.out
      have hs3 : lackT s.m ws (k + 1) = lackT s.m ws k + max (nth ws k - nth s.m k) 0 := tokTo_succ _ _
      by_cases hl : 0 < nth ws k - nth s.m k
      · have HS2 := Lib.hid hs2
        have HS3 := Lib.hid hs3
        clear hs2 hs3
        have X1 := hc.blk.set 2 (.int .i64 (s.lacked + lackT s.m ws k + (nth ws k - nth s.m k)))
        have Y1 := hc.own.other (a := ⟨b, 2, none⟩) (by intro e; exact hne (Option.some.inj e).symm) (.int .i64 (s.lacked + lackT s.m ws k + (nth ws k - nth s.m k)))
        have Z1 := hwr.set (a := ⟨b, 2, none⟩) (fun h => h.1 rfl) hc.low (.int .i64 (s.lacked + lackT s.m ws k + (nth ws k - nth s.m k)))
        generalize hW1 : wr.setCell ⟨b, 2, none⟩ (.int .i64 (s.lacked + lackT s.m ws k + (nth ws k - nth s.m k))) = W1 at X1 Y1 Z1
        have D4 := X1.cell (i := 4) rfl
        have DM := Y1.cell (i := k) (by rw [subM_len]; exact hlt3)
        rw [subM_at hlt3 HM0.out] at DM
        have DF := Y1.frozen k
        have X2 := X1.other (a := ⟨g, k, none⟩) hne (.int .i64 (nth s.m k + (nth ws k - nth s.m k)))
        have Y2 := Y1.set k (nth s.m k + (nth ws k - nth s.m k)) (by unfold I64; omega)
        have Z2 := Z1.set (a := ⟨g, k, none⟩) (fun h => h.2 rfl) hc.lowg (.int .i64 (nth s.m k + (nth ws k - nth s.m k)))
        generalize hW2 : W1.setCell ⟨g, k, none⟩ (.int .i64 (nth s.m k + (nth ws k - nth s.m k))) = W2 at X2 Y2 Z2
        have E4 := X2.cell (i := 4) rfl
        have EM := Y2.cell (i := k) (by rw [List.length_set, subM_len]; exact hlt3)
        rw [nth_set _ _ _ (by rw [subM_len]; exact hlt3), if_pos rfl] at EM
        have EF := Y2.frozen k
        have X3 := X2.other (a := ⟨g, k, none⟩) hne (.int .i64 (nth s.m k + (nth ws k - nth s.m k) - nth ws k))
        have Y3 := Y2.set k (nth s.m k + (nth ws k - nth s.m k) - nth ws k) (by unfold I64; omega)
        have Z3 := Z2.set (a := ⟨g, k, none⟩) (fun h => h.2 rfl) hc.lowg (.int .i64 (nth s.m k + (nth ws k - nth s.m k) - nth ws k))
        generalize hW3 : W2.setCell ⟨g, k, none⟩ (.int .i64 (nth s.m k + (nth ws k - nth s.m k) - nth ws k)) = W3 at X3 Y3 Z3
        have G1 := X3.cell (i := 1) rfl
        have GF := X3.frozen 1
        go_wp2_with fail
        go_roundw
        case rel =>
          refine ⟨k + 1, by omega, by go_num, ⟨?_, ?_, ?_, hne, hc.low, hc.lowg, hc.cap⟩, Z3.set (fun h => h.1 rfl) hc.low _⟩
          · rw [tokTo_succ, ← Int.add_assoc, HS3.out, ← Int.add_assoc, show max (nth ws k - nth s.m k) 0 = nth ws k - nth s.m k by omega]
            exact X3.set 1 _
          · rw [HS2.out, show max (nth s.m k - nth ws k) 0 = nth s.m k + (nth ws k - nth s.m k) - nth ws k by omega]
            have := Y3.other (a := ⟨b, 1, none⟩) (by intro e; exact hne (Option.some.inj e).symm) (.int .i64 (s.taken + tokTo (nth ws) k + nth ws k))
            rw [List.set_set] at this
            exact this
          · simp only [subM_len]; exact h.len
        case measure => simp [intOf]; omega
      · have hl' : nth ws k - nth s.m k ≤ 0 := by omega
        have HS2 := Lib.hid hs2
        have HS3 := Lib.hid hs3
        clear hs2 hs3 hl
        have X3 := hc.blk.other (a := ⟨g, k, none⟩) hne (.int .i64 (nth s.m k - nth ws k))
        have Y3 := hc.own.set k (nth s.m k - nth ws k) (by unfold I64; omega)
        have Z3 := hwr.set (a := ⟨g, k, none⟩) (fun h => h.2 rfl) hc.lowg (.int .i64 (nth s.m k - nth ws k))
        generalize hW3 : wr.setCell ⟨g, k, none⟩ (.int .i64 (nth s.m k - nth ws k)) = W3 at X3 Y3 Z3
        have G1 := X3.cell (i := 1) rfl
        have GF := X3.frozen 1
        go_wp2_with fail
        go_roundw
        case rel =>
          refine ⟨k + 1, by omega, by go_num, ⟨?_, ?_, ?_, hne, hc.low, hc.lowg, hc.cap⟩, Z3.set (fun h => h.1 rfl) hc.low _⟩
          · rw [tokTo_succ, ← Int.add_assoc, HS3.out, show max (nth ws k - nth s.m k) 0 = 0 by omega, Int.add_zero]
            exact X3.set 1 _
          · rw [HS2.out, show max (nth s.m k - nth ws k) 0 = nth s.m k - nth ws k by omega]
            exact Y3.other (a := ⟨b, 1, none⟩) (by intro e; exact hne (Option.some.inj e).symm) (.int .i64 (s.taken + tokTo (nth ws) k + nth ws k))
          · simp only [subM_len]; exact h.len
        case measure => simp [intOf]; omega
    · obtain rfl : k = n := by omega
      go_wp2_with fail
      go_end0
      refine ⟨rfl, ?_, hwr⟩
      have e1 : ws.take k = ws := List.take_of_length_le (by have := HWL.out; omega)
      rw [e1] at hc
      have e2 : sumL ws = tokTo (nth ws) k := by unfold sumL; rw [HWL.out]
      unfold takeS
      rw [e2, HWL.out]
      exact hc

set_option maxHeartbeats 1000000 in
set_option maxRecDepth 100000 in
theorem plain_calls (v : Value) (N : NetD) (w : World) (hN : NetR w v N) (hl : N.trans.length ≤ 24) :
    Calls Try.prog 83 #[v] w fun e w' => e = .returned (.bool (plainB N)) ∧ Gr w w' := by
  have T := intTy
  have hN' := hN
  obtain ⟨a, cap, rfl, hnl, hncap, hpl, hT⟩ := hN.open_
  have hpl1 := hpl.1
  have hpl2 := hpl.2
  go_enter Try.func83, Try.ntmps83
  go_wp2_with fail
  have B0 := box_cell (Gr.refl (w.alloc (.cells #[.int .i64 N.places, .slice a N.trans.length cap] 28))) (i := 1) rfl
  have Bl := box_lt (Gr.refl (w.alloc (.cells #[.int .i64 N.places, .slice a N.trans.length cap] 28)))
  go_loopw [3, 9] (fun had i wr => ∃ k : Nat, k ≤ N.trans.length ∧ i = .int .i64 k ∧ OwnI 3 (w.heap.size + 1) wr had (labsTo N.trans k) ∧ plainTo N.trans k = true ∧ Gr (w.alloc (.cells #[.int .i64 N.places, .slice a N.trans.length cap] 28)) wr) (fun _ i _ => N.trans.length - (intOf i).toNat)
  case atStart => exact ⟨0, Nat.zero_le _, rfl, by rw [labsTo_zero]; exact OwnI.nil _ _ _, plainTo_zero _, Gr.refl _⟩
  case round =>
    rename_i wr
    obtain ⟨k, hk, rfl, hown, hpl0, hgr⟩ := hrel
    have C1 := cell_gr B0 hgr
    by_cases hlt : k < N.trans.length
    · have hT' := (hT.gr ((Gr.refl _).alloc (.cells #[.int .i64 N.places, .slice a N.trans.length cap] 28))).gr hgr
      obtain ⟨b, o, vp, vq, rfl, c0, c1, c2, hlab, hp, hq⟩ := hT'.at_ix hlt
      obtain ⟨pa, pc, rfl, _, _⟩ := hp.len
      obtain ⟨qa, qc, rfl, _, _⟩ := hq.len
      have hll := labsTo_len (Nat.le_of_lt hlt)
      have hln := labsTo_succ hlt
      have HLN := Lib.hid hln
      have HPL := Lib.hid hpl0
      clear hln hpl0
      by_cases h0 : (ix N.trans k).label = 0
      · have HB := Lib.hid (show plainB N = false from plainTo_no (.inl h0) hlt)
        have q0 : ((ix N.trans k).label == 0) = true := by simp [h0]
        clear h0
        go_wp2_with fail
        go_ret
        exact ⟨ret_bool HB.out.symm, by (repeat (first | exact Gr.refl _ | assumption | apply Gr.alloc | apply Gr.drew | apply Gr.drewN | refine Gr.trans ?_ (by assumption)))⟩
      · have q0 : ((ix N.trans k).label == 0) = false := by simpa using h0
        cases hh : hasB (labsTo N.trans k) (ix N.trans k).label
        case true =>
          have HB := Lib.hid (show plainB N = false from plainTo_no (.inr hh) hlt)
          clear h0
          go_wp2_with fail
          refine (Contains_calls _ (labsTo N.trans k) _ _ (hown.ints.gr (by (repeat (first | exact Gr.refl _ | assumption | apply Gr.alloc | apply Gr.drew | apply Gr.drewN | refine Gr.trans ?_ (by assumption)))))).mono ?_
          rw [hh]; rintro _ _ ⟨rfl, rfl⟩
          go_wp2_with fail
          go_ret
          exact ⟨ret_bool HB.out.symm, by (repeat (first | exact Gr.refl _ | assumption | apply Gr.alloc | apply Gr.drew | apply Gr.drewN | refine Gr.trans ?_ (by assumption)))⟩
        case false =>
          have HB := Lib.hid (plainTo_yes HPL.out h0 hh)
          clear h0
          go_wp2_with fail
          refine (Contains_calls _ (labsTo N.trans k) _ _ (hown.ints.gr (by (repeat (first | exact Gr.refl _ | assumption | apply Gr.alloc | apply Gr.drew | apply Gr.drewN | refine Gr.trans ?_ (by assumption)))))).mono ?_
          rw [hh]; rintro _ _ ⟨rfl, rfl⟩
          have GB : Gr wr (wr.alloc (.cells #[.int .i64 (ix N.trans k).label, .slice pa (ix N.trans k).pre.length pc, .slice qa (ix N.trans k).post.length qc] 34)) := (Gr.refl _).alloc _
          have D0 := box_cell (Gr.refl (wr.alloc (.cells #[.int .i64 (ix N.trans k).label, .slice pa (ix N.trans k).pre.length pc, .slice qa (ix N.trans k).post.length qc] 34))) (i := 0) rfl
          go_wp2_with (at_builtin; refine app_int T _ _ (w.heap.size + 1) _ (labsTo N.trans k) ⟨wr.heap.size + 1, 0, none⟩ (ix N.trans k).label (by rfl) (by rfl) (by rfl) (by rfl) ((hown.gr GB).alloc _) (lit_cell (by simp)) hlab (by omega) (by have := hgr.le; simp at this ⊢; omega) ?_; intro v' w' ho' hg' _ _)
          go_roundw
          case rel => exact ⟨k + 1, by omega, by go_num, by rw [HLN.out]; exact ho', HB.out, hg' _ (by simp) (by (repeat (first | exact Gr.refl _ | assumption | apply Gr.alloc | apply Gr.drew | apply Gr.drewN | refine Gr.trans ?_ (by assumption))))⟩
          case measure => simp [intOf]; omega
    · obtain rfl : k = N.trans.length := by omega
      have HB := Lib.hid (show plainB N = true from hpl0)
      clear hpl0
      go_wp2_with fail
      go_ret
      exact ⟨ret_bool HB.out.symm, by (repeat (first | exact Gr.refl _ | assumption | apply Gr.alloc | apply Gr.drew | apply Gr.drewN | refine Gr.trans ?_ (by assumption)))⟩
end Go.Proofs.Ytidpppfimkhgkaa
