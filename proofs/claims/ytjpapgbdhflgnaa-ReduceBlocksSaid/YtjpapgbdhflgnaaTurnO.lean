/- net.Turned hands back a row whose parts are all of its own making. -/
import Derived.Test.YtjpapgbdhflgnaaGN
import Derived.Test.YtjpapgbdhflgnaaRW1
namespace Go.Proofs.Ytjpapgbdhflgnaa
open Go.RowKit Go.Tok
set_option linter.unusedVariables false

theorem held_on {base : Nat} {row : Option Nat} {w : World} {u : Value} {xs : List Int} (h : Held base row w u xs) : On (fun b => base ≤ b) (fun w => Ints w u xs) w := by
  unfold On
  unfold Held at h
  intro w' k
  refine h.1.kept fun hx b hb o => ?_
  obtain ⟨b', h1, h2⟩ := h.1.own_block hx
  rw [hb] at h1; cases h1
  unfold Kp at k
  exact World.cell?_of_block (k.2 b h2 (h.2 hx b hb).1)
theorem ownT_tro {e base : Nat} {w : World} {v : Value} {ts : List TranD} (h : OwnT e base w v ts) : TrO (fun b => base ≤ b) w v ts := by
  have hlt := h.lt
  unfold OwnT at h
  obtain ⟨rows, rfl, h2, h3⟩ := h
  rcases h2.2 with ⟨h4, h5⟩ | ⟨g, cap, cur, h4, _, hblk, hn, hcap, hsz, htake⟩
  · obtain rfl := List.eq_nil_of_length_eq_zero h5
    rw [h4]; exact ⟨none, 0, rfl, Nat.le_refl _, by unfold maxLen; omega, fun i hi => by simp at hi⟩
  · refine ⟨some ⟨g, 0, none⟩, cap, by rw [List.length_map]; exact h4, by rw [List.length_map]; exact hn, hcap, fun i hi => ?_⟩
    rw [List.length_map] at hi
    have hr := h3 rows[i] (List.getElem_mem hi)
    have hd : ix (rows.map (·.1)) i = rows[i].1 := by rw [ix_lt (by simpa using hi)]; simp
    rw [hd]
    have hc := cells3_at hi
    have hcell : ∀ j, j < 3 → ∀ u, (cells3 rows)[i * 3 + j]? = some u → w.cell? ⟨g, 0 + i * 3 + j, none⟩ = some u := by
      intro j hj u hu
      have h6 := h2
      rw [h4] at h6
      rw [Nat.zero_add, h6.cellAt (i * 3 + j) (by omega)]
      exact hu
    exact ⟨g, 0, rows[i].2.1, rows[i].2.2, rfl, (hlt g (by rw [h4]; rfl)).1, hcell 0 (by omega) _ hc.1, hcell 1 (by omega) _ hc.2.1, hcell 2 (by omega) _ hc.2.2, hr.1, held_on hr.2.1, held_on hr.2.2⟩
set_option maxHeartbeats 4000000 in
set_option maxRecDepth 100000 in
theorem TurnedO_calls (v : Value) (N : NetD) (w : World) (hN : NetR w v N) (hS : NetSmall N) :
    Calls Try.prog 21 #[v] w fun e w' => ∃ tv, e = .returned (.agg #[.int .i64 N.places, tv]) ∧ TrO (fun b => w.heap.size ≤ b) w' tv (turnN N).trans ∧ Gr w w' := by
  have hN' := hN
  have T := tranTy
  obtain ⟨a, cap, rfl, hnl, hncap, hpl, hT⟩ := hN.open_
  have hpl1 := hpl.1
  have hpl2 := hpl.2
  have hlen := hS.1
  have HS := Lib.hid hS.2
  clear hS
  go_enter Try.func21, Try.ntmps21
  go_wp2_with fail
  generalize hBX : w.heap.size + 1 + 1 = BX
  generalize hRX : w.heap.size + 1 = RX
  have q1 : w.heap.size < RX := by omega
  have q2 : RX < BX := by omega
  have b0 : Blk (((w.alloc (.cells #[.int .i64 N.places, .slice a N.trans.length cap] 28)).alloc (.cells #[.int .i64 0, .slice none 0 0] 28)).alloc (.cells #[.int .i64 N.places, .slice none 0 0] 28)) BX 28 #[.int .i64 N.places, .slice none 0 0] := Blk.new (by simp; omega)
  have b1 : Blk (((w.alloc (.cells #[.int .i64 N.places, .slice a N.trans.length cap] 28)).alloc (.cells #[.int .i64 0, .slice none 0 0] 28)).alloc (.cells #[.int .i64 N.places, .slice none 0 0] 28)) RX 28 #[.int .i64 0, .slice none 0 0] := (Blk.new (by simp; omega)).gr ((Gr.refl _).alloc _)
  have q3 : BX + 1 ≤ ((((w.alloc (.cells #[.int .i64 N.places, .slice a N.trans.length cap] 28)).alloc (.cells #[.int .i64 0, .slice none 0 0] 28)).alloc (.cells #[.int .i64 N.places, .slice none 0 0] 28))).heap.size := by simp; omega
  have HB := Lib.hid hBX
  have HR := Lib.hid hRX
  clear hBX hRX
  go_loopw [12] (fun i wr => ∃ (k : Nat) (out : Value), k ≤ N.trans.length ∧ i = .int .i64 k ∧ Blk wr BX 28 #[.int .i64 N.places, out] ∧ Blk wr RX 28 #[.int .i64 0, .slice none 0 0] ∧ OwnT 48 (BX + 1) wr out (turnUpto N k) ∧ Gr w wr ∧ BX + 1 ≤ wr.heap.size) (fun i _ => N.trans.length - (intOf i).toNat)
  case atStart => exact ⟨0, _, Nat.zero_le _, rfl, b0, b1, by rw [turnUpto_zero]; exact OwnT.nil _ _ _, by (repeat (first | exact Gr.refl _ | assumption | apply Gr.alloc | apply Gr.drew | apply Gr.drewN | refine Gr.trans ?_ (by assumption))), q3⟩
  case round =>
    rename_i wr _
    obtain ⟨k, out, hk, rfl, hb0, hb1, ho, hgr, hsz⟩ := hrel
    have hlt0 := hb0.lt
    by_cases hlt : k < N.trans.length
    · obtain ⟨b, o, vp, vq, rfl, c0, c1, c2, hlab, hp, hq⟩ := (hT.gr hgr).at_ hlt
      obtain ⟨pa, pc, rfl, pl, pl'⟩ := hp.len
      obtain ⟨qa, qc, rfl, ql, ql'⟩ := hq.len
      obtain ⟨oa, oc, hout⟩ := ho.form
      have hl := turnUpto_len (Nat.le_of_lt hlt)
      rw [hl] at hout
      subst hout
      have HL := Lib.hid hl
      clear hl
      have hsp := HS.out k hlt
      have hsp1 := hsp.1
      have hsp2 := hsp.2
      clear hsp
      go_wp2_with fail
      have bt : Blk (wr.alloc (.cells #[.int .i64 (N.tr k).label, .slice pa (N.tr k).pre.length pc, .slice qa (N.tr k).post.length qc] 48)) wr.heap.size 48 #[.int .i64 (N.tr k).label, .slice pa (N.tr k).pre.length pc, .slice qa (N.tr k).post.length qc] := Blk.new rfl
      have hb0' := hb0.gr ((Gr.refl _).alloc (.cells #[.int .i64 (N.tr k).label, .slice pa (N.tr k).pre.length pc, .slice qa (N.tr k).post.length qc] 48))
      have B1 := hb0'.cell (i := 1) rfl
      have T0 := bt.cell (i := 0) rfl
      have T1 := bt.cell (i := 1) rfl
      have T2 := bt.cell (i := 2) rfl
      have hol := ho.lt
      have HOL := Lib.hid hol
      clear hol
      refine cut14 (S := fun w' => w'.cell? ⟨BX, 1, none⟩ = some (.slice oa k oc) ∧ w'.cell? ⟨wr.heap.size, 0, none⟩ = some (.int .i64 (N.tr k).label) ∧ w'.cell? ⟨wr.heap.size, 1, none⟩ = some (.slice pa (N.tr k).pre.length pc) ∧ w'.cell? ⟨wr.heap.size, 2, none⟩ = some (.slice qa (N.tr k).post.length qc)) (by kernel_rfl) (by kernel_rfl) ⟨cell_gr B1 (by (repeat (first | exact Gr.refl _ | assumption | apply Gr.alloc | apply Gr.drew | apply Gr.drewN | refine Gr.trans ?_ (by assumption)))), cell_gr T0 (by (repeat (first | exact Gr.refl _ | assumption | apply Gr.alloc | apply Gr.drew | apply Gr.drewN | refine Gr.trans ?_ (by assumption)))), cell_gr T1 (by (repeat (first | exact Gr.refl _ | assumption | apply Gr.alloc | apply Gr.drew | apply Gr.drewN | refine Gr.trans ?_ (by assumption)))), cell_gr T2 (by (repeat (first | exact Gr.refl _ | assumption | apply Gr.alloc | apply Gr.drew | apply Gr.drewN | refine Gr.trans ?_ (by assumption))))⟩ (fun hHeld => ?_)
      (refine hold0 (v := ?_) (by kernel_rfl) (by kernel_rfl) (by kernel_rfl) (fun _ _ _ h => h) (by rfl) (fun w' hSw => ?_) (by assumption) ?_; rotate_left 1; · ((try dsimp only at hSw); (try go_simp); (try (with_reducible rfl))); (try simp only [Act.put, List.setIfInBounds_toArray, List.set_cons_zero, List.set_cons_succ]))
      (refine hold1 (v := ?_) (by kernel_rfl) (by kernel_rfl) (by kernel_rfl) (fun _ _ _ h => h) (by rfl) (fun w' hSw => ?_) (by assumption) ?_; rotate_left 1; · ((try dsimp only at hSw); (try go_simp); (try (with_reducible rfl))); (try simp only [Act.put, List.setIfInBounds_toArray, List.set_cons_zero, List.set_cons_succ]))
      (refine hold2 (v := ?_) (by kernel_rfl) (by kernel_rfl) (by kernel_rfl) (fun _ _ _ h => h) (by rfl) (fun w' hSw => ?_) (by assumption) ?_; rotate_left 1; · ((try dsimp only at hSw); (try go_simp); (try (with_reducible rfl))); (try simp only [Act.put, List.setIfInBounds_toArray, List.set_cons_zero, List.set_cons_succ]))
      (refine hold3 (v := ?_) (by kernel_rfl) (by kernel_rfl) (by kernel_rfl) (fun _ _ _ h => h) (by rfl) (fun w' hSw => ?_) (by assumption) ?_; rotate_left 1; · ((try dsimp only at hSw); (try go_simp); (try (with_reducible rfl))); (try simp only [Act.put, List.setIfInBounds_toArray, List.set_cons_zero, List.set_cons_succ]))
      (refine hold4 (v := ?_) (by kernel_rfl) (by kernel_rfl) (by kernel_rfl) (fun _ _ _ h => h) (by rfl) (fun w' hSw => ?_) (by assumption) ?_; rotate_left 1; · ((try dsimp only at hSw); (try go_simp); (try (with_reducible rfl))); (try simp only [Act.put, List.setIfInBounds_toArray, List.set_cons_zero, List.set_cons_succ]))
      (refine hold5 (v := ?_) (by kernel_rfl) (by kernel_rfl) (by kernel_rfl) (fun _ _ _ h => h) (by rfl) (fun w' hSw => ?_) (by assumption) ?_; rotate_left 1; · ((try dsimp only at hSw); (try go_simp); (try (with_reducible rfl))); (try simp only [Act.put, List.setIfInBounds_toArray, List.set_cons_zero, List.set_cons_succ]))
      (refine hold7 (v := ?_) (by kernel_rfl) (by kernel_rfl) (by kernel_rfl) (fun _ _ _ h => h) (by rfl) (fun w' hSw => ?_) (by assumption) ?_; rotate_left 1; · ((try dsimp only at hSw); (try go_simp); (try (with_reducible rfl))); (try simp only [Act.put, List.setIfInBounds_toArray, List.set_cons_zero, List.set_cons_succ]))
      (refine hold8 (v := ?_) (by kernel_rfl) (by kernel_rfl) (by kernel_rfl) (fun _ _ _ h => h) (by rfl) (fun w' hSw => ?_) (by assumption) ?_; rotate_left 1; · ((try dsimp only at hSw); (try go_simp); (try (with_reducible rfl))); (try simp only [Act.put, List.setIfInBounds_toArray, List.set_cons_zero, List.set_cons_succ]))
      refine next6 (by kernel_rfl) (fun K hK => ?_)
      go_simp
      go_at_call_of 44 (Value.slice qa (N.tr k).post.length qc)
      refine (Clone_calls _ (N.tr k).post _ (hq.gr (by (repeat (first | exact Gr.refl _ | assumption | apply Gr.alloc | apply Gr.drew | apply Gr.drewN | refine Gr.trans ?_ (by assumption))))) hsp2).mono ?_
      rintro _ w1 ⟨v1, rfl, o1, g1⟩
      obtain ⟨a1, e1, rfl, _, _⟩ := o1.ints.len
      have h1 := Held.fresh (base := BX + 1) (row := (Value.slice oa k oc).ownBlock) o1 (by simp; omega) (fun k' h => by have := (HOL.out k' h).2; simp; omega) (Gr.refl _)
      (refine hK.out _ _ ?_ (fun hHeld => ?_); · (exact ⟨cell_gr B1 (by (repeat (first | exact Gr.refl _ | assumption | apply Gr.alloc | apply Gr.drew | apply Gr.drewN | refine Gr.trans ?_ (by assumption)))), cell_gr T0 (by (repeat (first | exact Gr.refl _ | assumption | apply Gr.alloc | apply Gr.drew | apply Gr.drewN | refine Gr.trans ?_ (by assumption)))), cell_gr T1 (by (repeat (first | exact Gr.refl _ | assumption | apply Gr.alloc | apply Gr.drew | apply Gr.drewN | refine Gr.trans ?_ (by assumption)))), cell_gr T2 (by (repeat (first | exact Gr.refl _ | assumption | apply Gr.alloc | apply Gr.drew | apply Gr.drewN | refine Gr.trans ?_ (by assumption))))⟩))
      clear hK K
      try simp only [Act.put, List.setIfInBounds_toArray, List.set_cons_zero, List.set_cons_succ]
      refine next9 (by kernel_rfl) (fun K hK => ?_)
      go_simp
      go_at_call_of 44 (Value.slice pa (N.tr k).pre.length pc)
      refine (Clone_calls _ (N.tr k).pre _ (hp.gr (by (repeat (first | exact Gr.refl _ | assumption | apply Gr.alloc | apply Gr.drew | apply Gr.drewN | refine Gr.trans ?_ (by assumption))))) hsp1).mono ?_
      rintro _ w2 ⟨v2, rfl, o2, g2⟩
      obtain ⟨a2, e2, rfl, _, _⟩ := o2.ints.len
      have h2 := Held.fresh (base := BX + 1) (row := (Value.slice oa k oc).ownBlock) o2 (by have := (show Gr wr w1 from (by (repeat (first | exact Gr.refl _ | assumption | apply Gr.alloc | apply Gr.drew | apply Gr.drewN | refine Gr.trans ?_ (by assumption))))).le; simp; omega) (fun k' h => by have := (HOL.out k' h).2; have := (show Gr wr w1 from (by (repeat (first | exact Gr.refl _ | assumption | apply Gr.alloc | apply Gr.drew | apply Gr.drewN | refine Gr.trans ?_ (by assumption))))).le; simp; omega) (Gr.refl _)
      (refine hK.out _ _ ?_ (fun hHeld => ?_); · (exact ⟨cell_gr B1 (by (repeat (first | exact Gr.refl _ | assumption | apply Gr.alloc | apply Gr.drew | apply Gr.drewN | refine Gr.trans ?_ (by assumption)))), cell_gr T0 (by (repeat (first | exact Gr.refl _ | assumption | apply Gr.alloc | apply Gr.drew | apply Gr.drewN | refine Gr.trans ?_ (by assumption)))), cell_gr T1 (by (repeat (first | exact Gr.refl _ | assumption | apply Gr.alloc | apply Gr.drew | apply Gr.drewN | refine Gr.trans ?_ (by assumption)))), cell_gr T2 (by (repeat (first | exact Gr.refl _ | assumption | apply Gr.alloc | apply Gr.drew | apply Gr.drewN | refine Gr.trans ?_ (by assumption))))⟩))
      clear hK K
      try simp only [Act.put, List.setIfInBounds_toArray, List.set_cons_zero, List.set_cons_succ]
      (refine hold10 (v := ?_) (by kernel_rfl) (by kernel_rfl) (by kernel_rfl) (fun _ _ _ h => h) (by rfl) (fun w' hSw => ?_) (by assumption) ?_; rotate_left 1; · ((try dsimp only at hSw); (try go_simp); (try (with_reducible rfl))); (try simp only [Act.put, List.setIfInBounds_toArray, List.set_cons_zero, List.set_cons_succ]))
      refine next11 (by kernel_rfl) (fun K hK => ?_)
      go_simp
      (refine hK.out _ _ ?_ (fun hHeld => ?_); · (exact ⟨cell_gr B1 (by (repeat (first | exact Gr.refl _ | assumption | apply Gr.alloc | apply Gr.drew | apply Gr.drewN | refine Gr.trans ?_ (by assumption)))), cell_gr T0 (by (repeat (first | exact Gr.refl _ | assumption | apply Gr.alloc | apply Gr.drew | apply Gr.drewN | refine Gr.trans ?_ (by assumption)))), cell_gr T1 (by (repeat (first | exact Gr.refl _ | assumption | apply Gr.alloc | apply Gr.drew | apply Gr.drewN | refine Gr.trans ?_ (by assumption)))), cell_gr T2 (by (repeat (first | exact Gr.refl _ | assumption | apply Gr.alloc | apply Gr.drew | apply Gr.drewN | refine Gr.trans ?_ (by assumption))))⟩))
      clear hK K
      try simp only [Act.put, List.setIfInBounds_toArray, List.set_cons_zero, List.set_cons_succ]
      refine next12 (by kernel_rfl) (fun K hK => ?_)
      refine step_app_tran T (by rfl) _ _ (by rfl) (BX + 1) (.slice oa k oc) (turnUpto N k) ⟨(N.tr k).label, (N.tr k).post, (N.tr k).pre⟩ (.slice a1 (N.tr k).post.length e1) (.slice a2 (N.tr k).pre.length e2) ⟨w2.heap.size, 0, none⟩ (by rfl) (by rfl) (ho.gr (by (repeat (first | exact Gr.refl _ | assumption | apply Gr.alloc | apply Gr.drew | apply Gr.drewN | refine Gr.trans ?_ (by assumption))))) hlab (h1.gr (by (repeat (first | exact Gr.refl _ | assumption | apply Gr.alloc | apply Gr.drew | apply Gr.drewN | refine Gr.trans ?_ (by assumption))))) (h2.gr (by (repeat (first | exact Gr.refl _ | assumption | apply Gr.alloc | apply Gr.drew | apply Gr.drewN | refine Gr.trans ?_ (by assumption))))) (World.news_of_block (cs := #[.int .i64 (N.tr k).label, .slice a1 (N.tr k).post.length e1, .slice a2 (N.tr k).pre.length e2]) (t := 48) (fr := (0, 0)) (heap_alloc_new w2 _)) rfl rfl (by rw [HL.out]; omega) (Nat.le_trans hsz (Gr.le (by (repeat (first | exact Gr.refl _ | assumption | apply Gr.alloc | apply Gr.drew | apply Gr.drewN | refine Gr.trans ?_ (by assumption)))))) ?_
      intro g cp w3 ho3 hgr3 hat hlt3
      have hb3 := (hb0.gr (show Gr wr (w2.alloc (.cells #[.int .i64 (N.tr k).label, .slice a1 (N.tr k).post.length e1, .slice a2 (N.tr k).pre.length e2] 48)) from (by (repeat (first | exact Gr.refl _ | assumption | apply Gr.alloc | apply Gr.drew | apply Gr.drewN | refine Gr.trans ?_ (by assumption)))))).grown hgr3 (fun e => by have := (HOL.out BX e.symm).1; omega)
      have bt3 := (bt.gr (show Gr _ (w2.alloc (.cells #[.int .i64 (N.tr k).label, .slice a1 (N.tr k).post.length e1, .slice a2 (N.tr k).pre.length e2] 48)) from (by (repeat (first | exact Gr.refl _ | assumption | apply Gr.alloc | apply Gr.drew | apply Gr.drewN | refine Gr.trans ?_ (by assumption)))))).grown hgr3 (fun e => by have := (HOL.out wr.heap.size e.symm).2; omega)
      have k0 := hb3.cell (i := 1) rfl
      have kf := hb3.frozen 1
      have k1 := bt3.cell (i := 0) rfl
      have k2 := bt3.cell (i := 1) rfl
      have k3 := bt3.cell (i := 2) rfl
      (refine hK.out _ _ ?_ (fun hHeld => ?_); · (exact ⟨k0, k1, k2, k3⟩))
      clear hK K
      try simp only [Act.put, List.setIfInBounds_toArray, List.set_cons_zero, List.set_cons_succ]
      (refine hold13 (v := ?_) (by kernel_rfl) (by kernel_rfl) (by kernel_rfl) (fun _ _ _ h => h) (by rfl) (fun w' hSw => ?_) (by assumption) ?_; rotate_left 1; · ((try dsimp only at hSw); (try go_simp); (try (with_reducible rfl))); (try simp only [Act.put, List.setIfInBounds_toArray, List.set_cons_zero, List.set_cons_succ]))
      refine ends14 (by kernel_rfl) (fun K hK => ?_)
      go_simp
      refine hK.out _ _ ?_
      go_wp2_with fail
      have hsz3 : BX + 1 ≤ w3.heap.size := Nat.le_trans hsz (Nat.le_trans (Gr.le (show Gr wr (w2.alloc (.cells #[.int .i64 (N.tr k).label, .slice a1 (N.tr k).post.length e1, .slice a2 (N.tr k).pre.length e2] 48)) from (by (repeat (first | exact Gr.refl _ | assumption | apply Gr.alloc | apply Gr.drew | apply Gr.drewN | refine Gr.trans ?_ (by assumption)))))) hgr3.size)
      have hgr4 : Gr w w3 := Gr.grown (hgr.trans (show Gr wr (w2.alloc (.cells #[.int .i64 (N.tr k).label, .slice a1 (N.tr k).post.length e1, .slice a2 (N.tr k).pre.length e2] 48)) from (by (repeat (first | exact Gr.refl _ | assumption | apply Gr.alloc | apply Gr.drew | apply Gr.drewN | refine Gr.trans ?_ (by assumption)))))) hgr3 (fun k' h => by have := (HOL.out k' h).1; omega)
      have hr3 := (hb1.gr (show Gr wr (w2.alloc (.cells #[.int .i64 (N.tr k).label, .slice a1 (N.tr k).post.length e1, .slice a2 (N.tr k).pre.length e2] 48)) from (by (repeat (first | exact Gr.refl _ | assumption | apply Gr.alloc | apply Gr.drew | apply Gr.drewN | refine Gr.trans ?_ (by assumption)))))).grown hgr3 (fun e => by have := (HOL.out RX e.symm).1; omega)
      refine ⟨⟨k + 1, .slice (some ⟨g, 0, none⟩) ((turnUpto N k).length + 1) cp, hlt, by simp, hb3.set 1 _, hr3.other (by simp; omega) _, ?_, hgr4.setCell (by simp; omega) _, by simp [World.setCell]; omega⟩, by simp [intOf]; omega⟩
      rw [turnUpto_succ' hlt]
      exact ho3.other (by simp) _
    · obtain rfl : k = N.trans.length := by omega
      obtain ⟨oa, oc, hout⟩ := ho.form
      subst hout
      have C0 := hb0.cell (i := 0) rfl
      have C1 := hb0.cell (i := 1) rfl
      have D0 := hb1.cell (i := 0) rfl
      have D1 := hb1.cell (i := 1) rfl
      have F0 := hb1.frozen 0
      have hb2 := hb1.set 0 (.int .i64 N.places)
      have F1 := hb2.frozen 1
      have D2 := hb2.cell (i := 1) rfl
      have hb3 := hb2.set 1 (.slice oa (turnUpto N N.trans.length).length oc)
      have E0 := hb3.cell (i := 0) rfl
      have E1 := hb3.cell (i := 1) rfl
      go_wp2_with fail
      refine bodyPost_ret (v := .agg #[.int .i64 N.places, .slice oa (turnUpto N N.trans.length).length oc]) (by simp [results, Try.results21, go_sem, E0, E1]) rfl ⟨_, rfl, ?_, ?_⟩
      · have ht := (ho.other (a := ⟨RX, 0, none⟩) (by simp; omega) (.int .i64 N.places)).other (a := ⟨RX, 1, none⟩) (by simp; omega) (.slice oa (turnUpto N N.trans.length).length oc)
        rw [turnUpto_all] at ht ⊢
        exact (ownT_tro ht).mono fun b _ hb => by have := HB.out; omega
      · exact (hgr.setCell (by simp; omega) _).setCell (by simp; omega) _
end Go.Proofs.Ytjpapgbdhflgnaa
