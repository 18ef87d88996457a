/- Contract of shape.Close. -/
import Derived.Test.YtmigejcejnofiaaShape4
import Derived.Test.YtmigejcejnofiaaCloneTr
namespace Go.Tok
open Go.RowKit
def closeT (N : NetD) (i o : Nat) : TranD := ⟨0, oneN N.places.toNat o, oneN N.places.toNat i⟩
def closeN (N : NetD) (i o : Nat) : NetD := ⟨N.places, N.trans ++ [closeT N i o]⟩
def closeF (N : NetD) (i o : Int) : NetD × Int := if shapeC N i o ≠ 0 then (⟨0, []⟩, shapeC N i o) else if N.trans.length = 24 then (⟨0, []⟩, 4) else (closeN N i.toNat o.toNat, 0)
theorem closeF_wrong {N : NetD} {i o : Int} (h : shapeC N i o ≠ 0) : closeF N i o = (⟨0, []⟩, shapeC N i o) := by unfold closeF; rw [if_pos h]
theorem closeF_full {N : NetD} {i o : Int} (h : shapeC N i o = 0) (h' : N.trans.length = 24) : closeF N i o = (⟨0, []⟩, 4) := by unfold closeF; rw [if_neg (by rw [h]; decide), if_pos h']
theorem closeF_ok {N : NetD} {i o : Nat} (h : shapeC N i o = 0) (h' : N.trans.length ≠ 24) : closeF N i o = (closeN N i o, 0) := by unfold closeF; rw [if_neg (by rw [h]; decide), if_neg h']; rfl
theorem shapeC_zero {N : NetD} {i o : Int} (h : shapeC N i o = 0) : netOkB N = true ∧ 0 ≤ i ∧ 0 ≤ o ∧ i < N.places ∧ o < N.places ∧ i ≠ o := by
  unfold shapeC at h
  split at h
  · next hok =>
    split at h
    · simp at h
    · exact ⟨hok, by omega⟩
  · simp at h
def RetNE (w : World) (r : NetD × Int) (e : Ending) (w' : World) : Prop := ∃ v', e = .returned (.tuple #[v', .int .i64 r.2]) ∧ NetR w' v' r.1 ∧ Gr w w'
theorem RetNE.mk {w w' : World} {r : NetD × Int} {N : NetD} {c : Int} {v : Value} (h : r = (N, c)) (hN : NetR w' v N) (g : Gr w w') : RetNE w r (.returned (.tuple #[v, .int .i64 c])) w' := by subst h; exact ⟨v, rfl, hN, g⟩
theorem zeroNet (w : World) : NetR w (.agg #[.int .i64 0, .slice none 0 0]) ⟨0, []⟩ := NetR.mk_ (N := ⟨0, []⟩) (TransR.nil w) (by simp [I64])
theorem on_row {e b3 e2 b2 OX : Nat} {S2 : Nat → Prop} {w2 w3 w' : World} {v2 v3 : Value} {ts : List TranD} {xs : List Int} (o2 : OwnR trK e2 b2 S2 w2 v2 ts) (o3 : OwnI e b3 w3 v3 xs) (h : w2.heap.size ≤ b3) (hOX : OX < w2.heap.size) (g : Gr w3 w') :
    On (fun b => b ≠ OX ∧ v2.ownBlock ≠ some b) (fun u => Ints u v3 xs) w' :=
  ((Ints.on_own o3).mono (fun b _ hb => by have := (o3.lt hb).1; exact ⟨by omega, fun e => by have := (o2.lt e).2; omega⟩)).gr g
theorem on_close {N : NetD} {i o : Nat} {S : Nat → Prop} {w : World} {v3 v4 : Value} (h3 : On S (fun u => Ints u v3 (oneN N.places.toNat o)) w) (h4 : On S (fun u => Ints u v4 (oneN N.places.toNat i)) w) :
    On S (fun u => trK.R u [.int .i64 0, v3, v4] (closeT N i o)) w := (h3.and h4).imp fun u h => ⟨v3, v4, rfl, by simp [closeT, I64], h.1, h.2⟩
end Go.Tok
namespace Go.Proofs.Ytmigejcejnofiaa
open Go.RowKit Go.Tok
set_option linter.unusedVariables false

set_option maxHeartbeats 4000000 in
set_option maxRecDepth 100000 in
theorem Close_calls (v : Value) (N : NetD) (i o : Int) (w : World) (hN : NetR w v N) (hi : I64 i) (ho : I64 o) :
    Calls Try.prog 42 #[v, .int .i64 i, .int .i64 o] w (RetNE w (closeF N i o)) := by
  have T := tranTy
  obtain ⟨a, cap, rfl, hnl, hncap, hpl, hT⟩ := hN.open_
  have hpl1 := hpl.1
  have hpl2 := hpl.2
  have b0 : Blk ((w.alloc (.cells #[.int .i64 N.places, .slice a N.trans.length cap] 24)).alloc (.cells #[.int .i64 0, .slice none 0 0] 24)) w.heap.size 24 #[.int .i64 N.places, .slice a N.trans.length cap] := (Blk.new rfl).gr ((Gr.refl _).alloc _)
  have b1 : Blk ((w.alloc (.cells #[.int .i64 N.places, .slice a N.trans.length cap] 24)).alloc (.cells #[.int .i64 0, .slice none 0 0] 24)) (w.heap.size + 1) 24 #[.int .i64 0, .slice none 0 0] := Blk.new (by simp)
  by_cases h0 : shapeC N i o = 0
  case neg =>
    have HC := Lib.hid (closeF_wrong h0)
    have e1 : (shapeC N i o != 0) = true := by simpa using h0
    clear h0
    go_enter Try.func42, Try.ntmps42
    go_wp2_with fail
    refine (ShapeWrong_calls _ N i o _ (hN.gr (by (repeat (first | exact Gr.refl _ | assumption | apply Gr.alloc | apply Gr.drew | apply Gr.drewN | refine Gr.trans ?_ (by assumption))))) hi ho).mono ?_
    rintro _ w1 ⟨rfl, g1⟩
    replace b1 := b1.gr g1
    have D0 := b1.cell (i := 0) rfl
    have D1 := b1.cell (i := 1) rfl
    have F0 := b1.frozen 0
    have hb2 := b1.set 0 (.int .i64 0)
    have F1 := hb2.frozen 1
    have D2 := hb2.cell (i := 1) rfl
    have hb3 := hb2.set 1 (.slice none 0 0)
    have E0 := hb3.cell (i := 0) rfl
    have E1 := hb3.cell (i := 1) rfl
    go_wp2_with fail
    have gw : Gr w w1 := by (repeat (first | exact Gr.refl _ | assumption | apply Gr.alloc | apply Gr.drew | apply Gr.drewN | refine Gr.trans ?_ (by assumption)))
    refine bodyPost_ret (v := .tuple #[.agg #[.int .i64 0, .slice none 0 0], .int .i64 (shapeC N i o)]) (by simp [results, Try.results42, go_sem, E0, E1]) rfl ?_
    exact RetNE.mk HC.out (zeroNet _) ((gw.setCell (by simp) _).setCell (by simp) _)
  case pos =>
    obtain ⟨hok, hi0, ho0, hip, hop, hio⟩ := shapeC_zero h0
    obtain ⟨i, rfl⟩ := Int.eq_ofNat_of_zero_le hi0
    obtain ⟨o, rfl⟩ := Int.eq_ofNat_of_zero_le ho0
    have h16 := netOk_p16 hok
    have h24 := netOk_n24 hok
    have e1 := h0
    by_cases hf : N.trans.length = 24
    · have HC := Lib.hid (closeF_full h0 hf)
      clear h0
      rw [hf] at hN hT b0 b1 hnl
      go_enter Try.func42, Try.ntmps42
      rw [hf]
      go_wp2_with fail
      refine (ShapeWrong_calls _ N i o _ (hN.gr (by (repeat (first | exact Gr.refl _ | assumption | apply Gr.alloc | apply Gr.drew | apply Gr.drewN | refine Gr.trans ?_ (by assumption))))) hi ho).mono ?_
      rw [e1]
      rintro _ w1 ⟨rfl, g1⟩
      replace b0 := b0.gr g1
      have C1 := b0.cell (i := 1) rfl
      replace b1 := b1.gr g1
      have D0 := b1.cell (i := 0) rfl
      have D1 := b1.cell (i := 1) rfl
      have F0 := b1.frozen 0
      have hb2 := b1.set 0 (.int .i64 0)
      have F1 := hb2.frozen 1
      have D2 := hb2.cell (i := 1) rfl
      have hb3 := hb2.set 1 (.slice none 0 0)
      have E0 := hb3.cell (i := 0) rfl
      have E1 := hb3.cell (i := 1) rfl
      go_wp2_with fail
      have gw : Gr w w1 := by (repeat (first | exact Gr.refl _ | assumption | apply Gr.alloc | apply Gr.drew | apply Gr.drewN | refine Gr.trans ?_ (by assumption)))
      refine bodyPost_ret (v := .tuple #[.agg #[.int .i64 0, .slice none 0 0], .int .i64 4]) (by simp [results, Try.results42, go_sem, E0, E1]) rfl ?_
      exact RetNE.mk HC.out (zeroNet _) ((gw.setCell (by simp) _).setCell (by simp) _)
    · have HC := Lib.hid (closeF_ok h0 hf)
      have hf2 : N.trans.length ≤ 23 := by omega
      have q1 : ((N.trans.length : Int) == 24) = false := by simp; omega
      clear h0 hf
      go_enter Try.func42, Try.ntmps42
      go_wp2_with fail
      refine (ShapeWrong_calls _ N i o _ (hN.gr (by (repeat (first | exact Gr.refl _ | assumption | apply Gr.alloc | apply Gr.drew | apply Gr.drewN | refine Gr.trans ?_ (by assumption))))) hi ho).mono ?_
      rw [e1]
      rintro _ w1 ⟨rfl, g1⟩
      replace b0 := b0.gr g1
      have C0 := b0.cell (i := 0) rfl
      have C1 := b0.cell (i := 1) rfl
      replace b1 := b1.gr g1
      go_wp2_with fail
      have K0 : NetR w1 (.agg #[.int .i64 N.places, .slice a N.trans.length cap]) N := hN.gr (by (repeat (first | exact Gr.refl _ | assumption | apply Gr.alloc | apply Gr.drew | apply Gr.drewN | refine Gr.trans ?_ (by assumption))))
      have gw : Gr w w1 := by (repeat (first | exact Gr.refl _ | assumption | apply Gr.alloc | apply Gr.drew | apply Gr.drewN | refine Gr.trans ?_ (by assumption)))
      have hw1 : w.heap.size + 1 < w1.heap.size := b1.lt
      have hPN : max N.places 0 = (N.places.toNat : Int) := by omega
      have hPN2 : N.places.toNat ≤ 16 := by omega
      clear g1
      go_region_held3 (fun w' => w'.cell? ⟨w.heap.size, 0, none⟩ = some (.int .i64 N.places) ∧ w'.cell? ⟨w.heap.size, 1, none⟩ = some (.slice a N.trans.length cap)) (first | go_keep | exact ⟨cell_gr C0 (g5 w1 (Nat.le_succ _) (by (repeat (first | exact Gr.refl _ | assumption | apply Gr.alloc | apply Gr.drew | apply Gr.drewN | refine Gr.trans ?_ (by assumption))))), cell_gr C1 (g5 w1 (Nat.le_succ _) (by (repeat (first | exact Gr.refl _ | assumption | apply Gr.alloc | apply Gr.drew | apply Gr.drewN | refine Gr.trans ?_ (by assumption)))))⟩ | exact ⟨cell_gr C0 (by (repeat (first | exact Gr.refl _ | assumption | apply Gr.alloc | apply Gr.drew | apply Gr.drewN | refine Gr.trans ?_ (by assumption)))), cell_gr C1 (by (repeat (first | exact Gr.refl _ | assumption | apply Gr.alloc | apply Gr.drew | apply Gr.drewN | refine Gr.trans ?_ (by assumption))))⟩) (first | (go_at_call 88; (with_reducible refine (CloneTr_calls _ N.trans w _ hT (by (repeat (first | exact Gr.refl _ | assumption | apply Gr.alloc | apply Gr.drew | apply Gr.drewN | refine Gr.trans ?_ (by assumption)))) (by omega)).mono ?_); rintro _ w2 ⟨v2, rfl, o2, g2⟩; have hs2 : w1.heap.size < w2.heap.size := by have := g2.le; simp at this; omega) | (go_at_call_of 87 (Value.int .i64 (o : Int)); (with_reducible refine (one_calls N.places.toNat N.places o _ hPN (by omega) hPN2 ho).mono ?_); rintro _ w3 ⟨v3, rfl, o3, g3⟩; obtain ⟨a3, c3, rfl, l3, l3'⟩ := o3.ints.len) | (go_at_call_of 87 (Value.int .i64 (i : Int)); (with_reducible refine (one_calls N.places.toNat N.places i _ hPN (by omega) hPN2 hi).mono ?_); rintro _ w4 ⟨v4, rfl, o4, g4⟩; obtain ⟨a4, c4, rfl, l4, l4'⟩ := o4.ints.len) | (refine step_app_one trKTy (by rfl) _ _ (by rfl) (w1.heap.size + 1) (fun b => b ≠ w1.heap.size) v2 N.trans ⟨w4.heap.size, 0, none⟩ (closeT N i o) [.int .i64 0, .slice a3 (oneN N.places.toNat o).length c3, .slice a4 (oneN N.places.toNat i).length c4] (by rfl) (by rfl) (((o2.sets (fun b _ hb => by omega)).low (by simp)).gr (by (repeat (first | exact Gr.refl _ | assumption | apply Gr.alloc | apply Gr.drew | apply Gr.drewN | refine Gr.trans ?_ (by assumption))))) (World.news_of_block (cs := #[.int .i64 0, .slice a3 (oneN N.places.toNat o).length c3, .slice a4 (oneN N.places.toNat i).length c4]) (t := 74) (fr := (0, 0)) (heap_alloc_new w4 _)) (on_close (on_row o2 o3 (Gr.le (by (repeat (first | exact Gr.refl _ | assumption | apply Gr.alloc | apply Gr.drew | apply Gr.drewN | refine Gr.trans ?_ (by assumption))))) hs2 (by (repeat (first | exact Gr.refl _ | assumption | apply Gr.alloc | apply Gr.drew | apply Gr.drewN | refine Gr.trans ?_ (by assumption))))) (on_row o2 o4 (Gr.le (by (repeat (first | exact Gr.refl _ | assumption | apply Gr.alloc | apply Gr.drew | apply Gr.drewN | refine Gr.trans ?_ (by assumption))))) hs2 (by (repeat (first | exact Gr.refl _ | assumption | apply Gr.alloc | apply Gr.drew | apply Gr.drewN | refine Gr.trans ?_ (by assumption)))))) (by omega) (by unfold maxLen; omega) (Nat.le_trans (Nat.succ_le_of_lt hs2) (Gr.le (by (repeat (first | exact Gr.refl _ | assumption | apply Gr.alloc | apply Gr.drew | apply Gr.drewN | refine Gr.trans ?_ (by assumption)))))) ?_; intro g cp w5 o5 g5 gb5 hat5 hlt5))
      obtain ⟨ts, hts⟩ : ∃ ts, ts = N.trans ++ [closeT N i o] := ⟨_, rfl⟩
      rw [← hts] at o5
      have htl : ts.length = N.trans.length + 1 := by rw [hts]; simp
      have hS : ∀ t, t ∈ ts → t.pre.length ≤ 16 ∧ t.post.length ≤ 16 := fun t ht => by
        rw [hts] at ht
        rcases List.mem_append.1 ht with ht | ht
        · obtain ⟨j, hj, rfl⟩ := List.getElem_of_mem ht
          have F := netOk_tr hok hj
          rw [tr_ix, ix_lt hj] at F
          have f1 := F.pre
          have f2 := F.post
          omega
        · rw [List.mem_singleton.1 ht]
          simp only [closeT, oneN_len]
          omega
      have HS := Lib.hid hS
      clear hS
      have hgl := hat5
      have hgOX : w1.heap.size < g := by have := o5.lt (k := g) rfl; omega
      have hsrc : On (fun b => b ≠ w1.heap.size ∧ b < w5.heap.size) (fun u => TransR u (.slice (some ⟨g, 0, none⟩) (N.trans.length + 1) cp) ts) w5 :=
        (o5.on (S' := fun b => b ≠ w1.heap.size ∧ b < w5.heap.size) (fun b hb h => ⟨h, hb⟩) (fun b hb => by have e : g = b := Option.some.inj hb; omega)).imp fun u h => trans_of_rd h
      have G5 := g5 (w1.alloc (.cells #[.int .i64 N.places, .slice none 0 0] 24)) (by simp) (by (repeat (first | exact Gr.refl _ | assumption | apply Gr.alloc | apply Gr.drew | apply Gr.drewN | refine Gr.trans ?_ (by assumption))))
      have GW : Gr w w5 := (gw.alloc _).trans G5
      have bo : Blk w5 w1.heap.size 24 #[.int .i64 N.places, .slice none 0 0] := (Blk.new rfl).gr G5
      have br : Blk w5 (w.heap.size + 1) 24 #[.int .i64 0, .slice none 0 0] := (b1.gr ((Gr.refl _).alloc _)).gr G5
      generalize hOX : w1.heap.size = OX at *
      generalize hB : w5.heap.size = B at *
      have hOB : OX < B := by have := bo.lt; omega
      have HOX := Lib.hid hOX
      have HB := Lib.hid hB
      go_wp2_with fail
      go_loopw [43] (fun i wr => ∃ (k : Nat) (out : Value), k ≤ N.trans.length + 1 ∧ i = .int .i64 k ∧ Blk wr OX 24 #[.int .i64 N.places, out] ∧ Blk wr (w.heap.size + 1) 24 #[.int .i64 0, .slice none 0 0] ∧ OwnT 74 B wr out (ts.take k) ∧ Gr w wr ∧ B ≤ wr.heap.size ∧ Kp (fun b => b ≠ OX ∧ b < B) w5 wr) (fun i _ => N.trans.length + 1 - (intOf i).toNat)
      case atStart => exact ⟨0, _, Nat.zero_le _, rfl, bo, br, by rw [List.take_zero]; exact OwnT.nil _ _ _, GW, Nat.le_of_eq hB.symm, Kp.refl _ _⟩
      case round =>
        rename_i wr _
        obtain ⟨k, out, hk, rfl, hb0, hb1, hot, hgr, hsz, hkp⟩ := hrel
        have hlt0 := hb0.lt
        have hsr := (hsrc.kp hkp).now
        by_cases hlt : k < N.trans.length + 1
        · have hlt' : k < ts.length := by omega
          obtain ⟨b, of, vp, vq, hg2, c0, c1, c2, hlab, hp, hq⟩ := hsr.at_ix hlt'
          cases hg2
          rw [Nat.zero_add] at c0 c1 c2
          have hsp := HS.out _ (ix_mem hlt')
          have htk := take_ix hlt'
          obtain ⟨tk, hTk⟩ : ∃ tk, tk = ts.take k := ⟨_, rfl⟩
          have hl : tk.length = k := by rw [hTk, List.length_take]; omega
          rw [← hTk] at htk hot
          obtain ⟨t, ht⟩ : ∃ t, t = ix ts k := ⟨_, rfl⟩
          rw [← ht] at c0 hlab hp hq hsp htk
          have hsp1 := hsp.1
          have hsp2 := hsp.2
          have HTK := Lib.hid htk
          clear hsp ht htk hTk hlt'
          obtain ⟨pa, pc, rfl, pl, pl'⟩ := hp.len
          obtain ⟨qa, qc, rfl, ql, ql'⟩ := hq.len
          obtain ⟨oa, oc, hout⟩ := hot.form
          rw [hl] at hout
          subst hout
          have HL := Lib.hid hl
          clear hl
          go_wp2_with fail
          have bt : Blk (wr.alloc (.cells #[.int .i64 t.label, .slice pa t.pre.length pc, .slice qa t.post.length qc] 74)) wr.heap.size 74 #[.int .i64 t.label, .slice pa t.pre.length pc, .slice qa t.post.length qc] := Blk.new rfl
          have hb0' := hb0.gr ((Gr.refl _).alloc (.cells #[.int .i64 t.label, .slice pa t.pre.length pc, .slice qa t.post.length qc] 74))
          have B1 := hb0'.cell (i := 1) rfl
          have T0 := bt.cell (i := 0) rfl
          have T1 := bt.cell (i := 1) rfl
          have T2 := bt.cell (i := 2) rfl
          have hol := hot.lt
          have HOL := Lib.hid hol
          clear hol
          refine cut14 (S := fun w' => w'.cell? ⟨OX, 1, none⟩ = some (.slice oa k oc) ∧ w'.cell? ⟨wr.heap.size, 0, none⟩ = some (.int .i64 t.label) ∧ w'.cell? ⟨wr.heap.size, 1, none⟩ = some (.slice pa t.pre.length pc) ∧ w'.cell? ⟨wr.heap.size, 2, none⟩ = some (.slice qa t.post.length qc)) (by kernel_rfl) (by kernel_rfl) ⟨cell_gr B1 (by (repeat (first | exact Gr.refl _ | assumption | apply Gr.alloc | apply Gr.drew | apply Gr.drewN | refine Gr.trans ?_ (by assumption)))), cell_gr T0 (by (repeat (first | exact Gr.refl _ | assumption | apply Gr.alloc | apply Gr.drew | apply Gr.drewN | refine Gr.trans ?_ (by assumption)))), cell_gr T1 (by (repeat (first | exact Gr.refl _ | assumption | apply Gr.alloc | apply Gr.drew | apply Gr.drewN | refine Gr.trans ?_ (by assumption)))), cell_gr T2 (by (repeat (first | exact Gr.refl _ | assumption | apply Gr.alloc | apply Gr.drew | apply Gr.drewN | refine Gr.trans ?_ (by assumption))))⟩ (fun hHeld => ?_)
          (refine hold0 (v := ?_) (by kernel_rfl) (by kernel_rfl) (by kernel_rfl) (fun _ _ _ h => h) (by rfl) (fun w' hSw => ?_) (by assumption) ?_; rotate_left 1; · ((try dsimp only at hSw); (try go_simp); (try (with_reducible rfl))); (try simp only [Act.put, List.setIfInBounds_toArray, List.set_cons_zero, List.set_cons_succ]))
          (refine hold1 (v := ?_) (by kernel_rfl) (by kernel_rfl) (by kernel_rfl) (fun _ _ _ h => h) (by rfl) (fun w' hSw => ?_) (by assumption) ?_; rotate_left 1; · ((try dsimp only at hSw); (try go_simp); (try (with_reducible rfl))); (try simp only [Act.put, List.setIfInBounds_toArray, List.set_cons_zero, List.set_cons_succ]))
          (refine hold2 (v := ?_) (by kernel_rfl) (by kernel_rfl) (by kernel_rfl) (fun _ _ _ h => h) (by rfl) (fun w' hSw => ?_) (by assumption) ?_; rotate_left 1; · ((try dsimp only at hSw); (try go_simp); (try (with_reducible rfl))); (try simp only [Act.put, List.setIfInBounds_toArray, List.set_cons_zero, List.set_cons_succ]))
          (refine hold3 (v := ?_) (by kernel_rfl) (by kernel_rfl) (by kernel_rfl) (fun _ _ _ h => h) (by rfl) (fun w' hSw => ?_) (by assumption) ?_; rotate_left 1; · ((try dsimp only at hSw); (try go_simp); (try (with_reducible rfl))); (try simp only [Act.put, List.setIfInBounds_toArray, List.set_cons_zero, List.set_cons_succ]))
          (refine hold4 (v := ?_) (by kernel_rfl) (by kernel_rfl) (by kernel_rfl) (fun _ _ _ h => h) (by rfl) (fun w' hSw => ?_) (by assumption) ?_; rotate_left 1; · ((try dsimp only at hSw); (try go_simp); (try (with_reducible rfl))); (try simp only [Act.put, List.setIfInBounds_toArray, List.set_cons_zero, List.set_cons_succ]))
          (refine hold5 (v := ?_) (by kernel_rfl) (by kernel_rfl) (by kernel_rfl) (fun _ _ _ h => h) (by rfl) (fun w' hSw => ?_) (by assumption) ?_; rotate_left 1; · ((try dsimp only at hSw); (try go_simp); (try (with_reducible rfl))); (try simp only [Act.put, List.setIfInBounds_toArray, List.set_cons_zero, List.set_cons_succ]))
          (refine hold7 (v := ?_) (by kernel_rfl) (by kernel_rfl) (by kernel_rfl) (fun _ _ _ h => h) (by rfl) (fun w' hSw => ?_) (by assumption) ?_; rotate_left 1; · ((try dsimp only at hSw); (try go_simp); (try (with_reducible rfl))); (try simp only [Act.put, List.setIfInBounds_toArray, List.set_cons_zero, List.set_cons_succ]))
          (refine hold8 (v := ?_) (by kernel_rfl) (by kernel_rfl) (by kernel_rfl) (fun _ _ _ h => h) (by rfl) (fun w' hSw => ?_) (by assumption) ?_; rotate_left 1; · ((try dsimp only at hSw); (try go_simp); (try (with_reducible rfl))); (try simp only [Act.put, List.setIfInBounds_toArray, List.set_cons_zero, List.set_cons_succ]))
          refine next6 (by kernel_rfl) (fun K hK => ?_)
          go_simp
          go_at_call_of 59 (Value.slice pa t.pre.length pc)
          refine (Clone_calls _ t.pre _ (hp.gr (by (repeat (first | exact Gr.refl _ | assumption | apply Gr.alloc | apply Gr.drew | apply Gr.drewN | refine Gr.trans ?_ (by assumption))))) (by omega)).mono ?_
          rintro _ x1 ⟨v1, rfl, p1, f1⟩
          obtain ⟨a1, d1, rfl, _, _⟩ := p1.ints.len
          have h1 := Held.fresh (base := B) (row := (Value.slice oa k oc).ownBlock) p1 (by simp; omega) (fun k' h => by have := (HOL.out k' h).2; simp; omega) (Gr.refl _)
          (refine hK.out _ _ ?_ (fun hHeld => ?_); · (exact ⟨cell_gr B1 (by (repeat (first | exact Gr.refl _ | assumption | apply Gr.alloc | apply Gr.drew | apply Gr.drewN | refine Gr.trans ?_ (by assumption)))), cell_gr T0 (by (repeat (first | exact Gr.refl _ | assumption | apply Gr.alloc | apply Gr.drew | apply Gr.drewN | refine Gr.trans ?_ (by assumption)))), cell_gr T1 (by (repeat (first | exact Gr.refl _ | assumption | apply Gr.alloc | apply Gr.drew | apply Gr.drewN | refine Gr.trans ?_ (by assumption)))), cell_gr T2 (by (repeat (first | exact Gr.refl _ | assumption | apply Gr.alloc | apply Gr.drew | apply Gr.drewN | refine Gr.trans ?_ (by assumption))))⟩))
          clear hK K
          try simp only [Act.put, List.setIfInBounds_toArray, List.set_cons_zero, List.set_cons_succ]
          refine next9 (by kernel_rfl) (fun K hK => ?_)
          go_simp
          go_at_call_of 59 (Value.slice qa t.post.length qc)
          refine (Clone_calls _ t.post _ (hq.gr (by (repeat (first | exact Gr.refl _ | assumption | apply Gr.alloc | apply Gr.drew | apply Gr.drewN | refine Gr.trans ?_ (by assumption))))) (by omega)).mono ?_
          rintro _ x2 ⟨v2', rfl, p2, f2⟩
          obtain ⟨a2, d2, rfl, _, _⟩ := p2.ints.len
          have h2 := Held.fresh (base := B) (row := (Value.slice oa k oc).ownBlock) p2 (by have := (show Gr wr x1 from (by (repeat (first | exact Gr.refl _ | assumption | apply Gr.alloc | apply Gr.drew | apply Gr.drewN | refine Gr.trans ?_ (by assumption))))).le; simp; omega) (fun k' h => by have := (HOL.out k' h).2; have := (show Gr wr x1 from (by (repeat (first | exact Gr.refl _ | assumption | apply Gr.alloc | apply Gr.drew | apply Gr.drewN | refine Gr.trans ?_ (by assumption))))).le; simp; omega) (Gr.refl _)
          (refine hK.out _ _ ?_ (fun hHeld => ?_); · (exact ⟨cell_gr B1 (by (repeat (first | exact Gr.refl _ | assumption | apply Gr.alloc | apply Gr.drew | apply Gr.drewN | refine Gr.trans ?_ (by assumption)))), cell_gr T0 (by (repeat (first | exact Gr.refl _ | assumption | apply Gr.alloc | apply Gr.drew | apply Gr.drewN | refine Gr.trans ?_ (by assumption)))), cell_gr T1 (by (repeat (first | exact Gr.refl _ | assumption | apply Gr.alloc | apply Gr.drew | apply Gr.drewN | refine Gr.trans ?_ (by assumption)))), cell_gr T2 (by (repeat (first | exact Gr.refl _ | assumption | apply Gr.alloc | apply Gr.drew | apply Gr.drewN | refine Gr.trans ?_ (by assumption))))⟩))
          clear hK K
          try simp only [Act.put, List.setIfInBounds_toArray, List.set_cons_zero, List.set_cons_succ]
          (refine hold10 (v := ?_) (by kernel_rfl) (by kernel_rfl) (by kernel_rfl) (fun _ _ _ h => h) (by rfl) (fun w' hSw => ?_) (by assumption) ?_; rotate_left 1; · ((try dsimp only at hSw); (try go_simp); (try (with_reducible rfl))); (try simp only [Act.put, List.setIfInBounds_toArray, List.set_cons_zero, List.set_cons_succ]))
          refine next11 (by kernel_rfl) (fun K hK => ?_)
          go_simp
          (refine hK.out _ _ ?_ (fun hHeld => ?_); · (exact ⟨cell_gr B1 (by (repeat (first | exact Gr.refl _ | assumption | apply Gr.alloc | apply Gr.drew | apply Gr.drewN | refine Gr.trans ?_ (by assumption)))), cell_gr T0 (by (repeat (first | exact Gr.refl _ | assumption | apply Gr.alloc | apply Gr.drew | apply Gr.drewN | refine Gr.trans ?_ (by assumption)))), cell_gr T1 (by (repeat (first | exact Gr.refl _ | assumption | apply Gr.alloc | apply Gr.drew | apply Gr.drewN | refine Gr.trans ?_ (by assumption)))), cell_gr T2 (by (repeat (first | exact Gr.refl _ | assumption | apply Gr.alloc | apply Gr.drew | apply Gr.drewN | refine Gr.trans ?_ (by assumption))))⟩))
          clear hK K
          try simp only [Act.put, List.setIfInBounds_toArray, List.set_cons_zero, List.set_cons_succ]
          refine next12 (by kernel_rfl) (fun K hK => ?_)
          refine step_app_tran T (by rfl) _ _ (by rfl) B (.slice oa k oc) tk t (.slice a1 t.pre.length d1) (.slice a2 t.post.length d2) ⟨x2.heap.size, 0, none⟩ (by rfl) (by rfl) (hot.gr (by (repeat (first | exact Gr.refl _ | assumption | apply Gr.alloc | apply Gr.drew | apply Gr.drewN | refine Gr.trans ?_ (by assumption))))) hlab (h1.gr (by (repeat (first | exact Gr.refl _ | assumption | apply Gr.alloc | apply Gr.drew | apply Gr.drewN | refine Gr.trans ?_ (by assumption))))) (h2.gr (by (repeat (first | exact Gr.refl _ | assumption | apply Gr.alloc | apply Gr.drew | apply Gr.drewN | refine Gr.trans ?_ (by assumption))))) (World.news_of_block (cs := #[.int .i64 t.label, .slice a1 t.pre.length d1, .slice a2 t.post.length d2]) (t := 74) (fr := (0, 0)) (heap_alloc_new x2 _)) rfl rfl (by rw [HL.out]; omega) (Nat.le_trans hsz (Gr.le (by (repeat (first | exact Gr.refl _ | assumption | apply Gr.alloc | apply Gr.drew | apply Gr.drewN | refine Gr.trans ?_ (by assumption)))))) ?_
          intro g' cp' x3 ho3 hgr3 hat hlt3
          have GR : Gr wr (x2.alloc (.cells #[.int .i64 t.label, .slice a1 t.pre.length d1, .slice a2 t.post.length d2] 74)) := by (repeat (first | exact Gr.refl _ | assumption | apply Gr.alloc | apply Gr.drew | apply Gr.drewN | refine Gr.trans ?_ (by assumption)))
          have hb3 := (hb0.gr GR).grown hgr3 (fun e => by have := (HOL.out OX e.symm).1; omega)
          have bt3 := (bt.gr (show Gr _ (x2.alloc (.cells #[.int .i64 t.label, .slice a1 t.pre.length d1, .slice a2 t.post.length d2] 74)) from (by (repeat (first | exact Gr.refl _ | assumption | apply Gr.alloc | apply Gr.drew | apply Gr.drewN | refine Gr.trans ?_ (by assumption)))))).grown hgr3 (fun e => by have := (HOL.out wr.heap.size e.symm).2; omega)
          have k0 := hb3.cell (i := 1) rfl
          have kf := hb3.frozen 1
          have k1 := bt3.cell (i := 0) rfl
          have k2 := bt3.cell (i := 1) rfl
          have k3 := bt3.cell (i := 2) rfl
          (refine hK.out _ _ ?_ (fun hHeld => ?_); · (exact ⟨k0, k1, k2, k3⟩))
          clear hK K
          try simp only [Act.put, List.setIfInBounds_toArray, List.set_cons_zero, List.set_cons_succ]
          (refine hold13 (v := ?_) (by kernel_rfl) (by kernel_rfl) (by kernel_rfl) (fun _ _ _ h => h) (by rfl) (fun w' hSw => ?_) (by assumption) ?_; rotate_left 1; · ((try dsimp only at hSw); (try go_simp); (try (with_reducible rfl))); (try simp only [Act.put, List.setIfInBounds_toArray, List.set_cons_zero, List.set_cons_succ]))
          refine ends14 (by kernel_rfl) (fun K hK => ?_)
          go_simp
          refine hK.out _ _ ?_
          go_wp2_with fail
          have hsz3 : B ≤ x3.heap.size := Nat.le_trans hsz (Nat.le_trans (Gr.le GR) hgr3.size)
          have hgr4 : Gr w x3 := Gr.grown (hgr.trans GR) hgr3 (fun k' h => by have := (HOL.out k' h).1; omega)
          have hr3 := (hb1.gr GR).grown hgr3 (fun e => by have := (HOL.out (w.heap.size + 1) e.symm).1; omega)
          have hkp3 : Kp (fun b => b ≠ OX ∧ b < B) w5 (x3.setCell ⟨OX, 1, none⟩ (.slice (some ⟨g', 0, none⟩) (tk.length + 1) cp')) := ((hkp.trans GR.kp).trans (grown_kp hgr3 (fun b hb e => by have := (HOL.out b e.symm).1; omega))).trans (set_kp (fun h => h.1 rfl) _)
          refine ⟨⟨k + 1, .slice (some ⟨g', 0, none⟩) (tk.length + 1) cp', hlt, by simp, hb3.set 1 _, hr3.other (by simp; omega) _, ?_, hgr4.setCell (by simp; omega) _, by simp [World.setCell]; omega, hkp3⟩, by simp [intOf]; omega⟩
          rw [HTK.out]
          exact ho3.other (by simp; omega) _
        · obtain rfl : k = N.trans.length + 1 := by omega
          obtain ⟨tk, hTk⟩ : ∃ tk, tk = ts.take (N.trans.length + 1) := ⟨_, rfl⟩
          rw [← hTk] at hot
          obtain ⟨oa, oc, hout⟩ := hot.form
          have HTk := Lib.hid hTk
          clear hTk
          subst hout
          have C0 := hb0.cell (i := 0) rfl
          have C1 := hb0.cell (i := 1) rfl
          have D0 := hb1.cell (i := 0) rfl
          have D1 := hb1.cell (i := 1) rfl
          have F0 := hb1.frozen 0
          have hb2 := hb1.set 0 (.int .i64 N.places)
          have F1 := hb2.frozen 1
          have D2 := hb2.cell (i := 1) rfl
          have hb3 := hb2.set 1 (.slice oa tk.length oc)
          have E0 := hb3.cell (i := 0) rfl
          have E1 := hb3.cell (i := 1) rfl
          go_wp2_with fail
          refine bodyPost_ret (v := .tuple #[.agg #[.int .i64 N.places, .slice oa tk.length oc], .int .i64 0]) (by simp [results, Try.results42, go_sem, E0, E1]) rfl ?_
          have ht := ((hot.other (a := ⟨w.heap.size + 1, 0, none⟩) (by simp; omega) (.int .i64 N.places)).other (a := ⟨w.heap.size + 1, 1, none⟩) (by simp; omega) (.slice oa tk.length oc)).trans
          have htt : tk = (closeN N i o).trans := by rw [HTk.out, ← htl, List.take_length, hts]; rfl
          rw [htt] at ht ⊢
          exact RetNE.mk HC.out (NetR.mk_ (N := closeN N i o) ht hpl) ((hgr.setCell (by simp) _).setCell (by simp) _)
end Go.Proofs.Ytmigejcejnofiaa
