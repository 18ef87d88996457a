/- Contract of flow.Effect. -/
import Derived.Test.YtkpbhkfpkoiilaaFlow2
import Derived.Test.YtkpbhkfpkoiilaaNetOwn
import Derived.Test.YtkpbhkfpkoiilaaLast
namespace Go.Proofs.Ytkpbhkfpkoiilaa
open Go.RowKit Go.Tok
set_option linter.unusedVariables false

theorem Effect_bad1 (v u : Value) (N : NetD) (c : List Int) (w : World) (hN : NetR w v N) (hu : Ints w u c) (h1 : netOkB N = false) :
    Calls Try.prog 28 #[v, u] w (RetIE w (effectF N c)) := by
  obtain ⟨a, cap, rfl, hnl, hncap, hpl, hT⟩ := hN.open_
  have hpl1 := hpl.1
  have hpl2 := hpl.2
  obtain ⟨ua, uc, rfl, ul, ul'⟩ := hu.len
  have HC := Lib.hid (effectF_no (c := c) (effectB_bad1 (c := c) h1))
  have e1 := wrongC_no h1
  go_enter Try.func28, Try.ntmps28
  go_wp2_with fail
  refine (Wrong_calls _ N _ (hN.alloc _)).mono ?_
  rw [e1]; rintro _ w1 ⟨rfl, g1⟩
  have B0 := box_cell g1 (i := 0) rfl
  have B1 := box_cell g1 (i := 1) rfl
  have Bl := box_lt g1
  go_wp2_with fail
  go_ret2
  exact RetIE.mk HC.out (Ints.nil _) (by (repeat (first | exact Gr.refl _ | assumption | apply Gr.alloc | apply Gr.drew | apply Gr.drewN | refine Gr.trans ?_ (by assumption))))

theorem Effect_bad2 (v u : Value) (N : NetD) (c : List Int) (w : World) (hN : NetR w v N) (hu : Ints w u c) (h1 : netOkB N = true) (h2 : boundedB c N.trans.length 0 = false) :
    Calls Try.prog 28 #[v, u] w (RetIE w (effectF N c)) := by
  obtain ⟨a, cap, rfl, hnl, hncap, hpl, hT⟩ := hN.open_
  have hpl1 := hpl.1
  have hpl2 := hpl.2
  obtain ⟨ua, uc, rfl, ul, ul'⟩ := hu.len
  have HC := Lib.hid (effectF_no (c := c) (effectB_bad2 (c := c) h2))
  have e1 := wrongC_yes h1
  go_enter Try.func28, Try.ntmps28
  go_wp2_with fail
  refine (Wrong_calls _ N _ (hN.alloc _)).mono ?_
  rw [e1]; rintro _ w1 ⟨rfl, g1⟩
  have B0 := box_cell g1 (i := 0) rfl
  have B1 := box_cell g1 (i := 1) rfl
  have Bl := box_lt g1
  go_wp2_with fail
  have hb := bounded_calls (.slice ua c.length uc) c N.trans.length 0 w1 ((hu.alloc _).gr g1) (by unfold I64; omega) (by decide)
  rw [h2] at hb
  refine hb.mono ?_
  rintro _ w2 ⟨rfl, g2⟩
  go_wp2_with fail
  go_ret2
  exact RetIE.mk HC.out (Ints.nil _) (by (repeat (first | exact Gr.refl _ | assumption | apply Gr.alloc | apply Gr.drew | apply Gr.drewN | refine Gr.trans ?_ (by assumption))))

set_option maxHeartbeats 4000000 in
set_option maxRecDepth 100000 in
theorem Effect_ok (v u : Value) (N : NetD) (c : List Int) (w : World) (hN : NetR w v N) (hu : Ints w u c) (hB : effectB N c = true) :
    Calls Try.prog 28 #[v, u] w (RetIE w (effectF N c)) := by
  obtain ⟨a, cap, rfl, hnl, hncap, hpl, hT⟩ := hN.open_
  have hpl1 := hpl.1
  have hpl2 := hpl.2
  obtain ⟨ua, uc, rfl, ul, ul'⟩ := hu.len
  have T := intTy
  obtain ⟨h1, h2⟩ := effectB_of hB
  have sz := netOk_sizes h1
  have s0 := sz.1
  have s1 := sz.2.1
  have s2 := sz.2.2
  obtain ⟨n, hn⟩ := Int.eq_ofNat_of_zero_le s0
  have hcl := (boundedB_of h2).1
  have HC := Lib.hid (effectF_yes hB)
  have HB := Lib.hid hB
  have HCL := Lib.hid hcl
  have HN := Lib.hid hn
  have HOK := Lib.hid h1
  have e1 := wrongC_yes h1
  have hn16 : n ≤ 16 := by omega
  clear hB sz hcl h1 hn
  go_enter Try.func28, Try.ntmps28
  go_wp2_with fail
  refine (Wrong_calls _ N _ (hN.alloc _)).mono ?_
  rw [e1]; rintro _ w1 ⟨rfl, g1⟩
  have B0 := box_cell g1 (i := 0) rfl
  have B1 := box_cell g1 (i := 1) rfl
  have Bl := box_lt g1
  rw [HN.out] at B0
  go_wp2_with fail
  have hb := bounded_calls (.slice ua c.length uc) c N.trans.length 0 w1 ((hu.alloc _).gr g1) (by unfold I64; omega) (by decide)
  rw [h2] at hb
  refine hb.mono ?_
  rintro _ w2 ⟨rfl, g2⟩
  clear h2
  have B0 := cell_gr B0 g2
  have B1 := cell_gr B1 g2
  have Bl : w.heap.size < w2.heap.size := Nat.lt_of_lt_of_le Bl g2.le
  have G2 := g1.trans g2
  clear g1 g2
  go_wp2_with (at_make; refine mk_ints T _ _ (w.heap.size + 1) n _ _ rfl rfl rfl rfl (by omega) (by omega) (by omega) Bl ?_; intro w3 hown hb hsz; have C1 := cell_gr B1 hb; have C0 := cell_gr B0 hb)
  rw [← effUp_zero N c] at hown
  have G3 : Gr w w3 := (box_gr G2).trans hb
  go_loopw [27] (fun i wr => ∃ k : Nat, k ≤ N.trans.length ∧ i = .int .i64 k ∧ OwnI 3 (w.heap.size + 1) wr (.slice (some ⟨w2.heap.size, 0, none⟩) n n) (effUp N c n k) ∧ Gr w wr) (fun i _ => N.trans.length - (intOf i).toNat)
  case atStart => exact ⟨0, Nat.zero_le _, rfl, hown, G3⟩
  case round =>
    rename_i wr _
    obtain ⟨k, hk, rfl, ho, hgr⟩ := hrel
    by_cases hlt : k < N.trans.length
    · obtain ⟨b, o, vp, vq, rfl, c0, c1, c2, hlab, hp, hq⟩ := hT.at_ hlt
      obtain ⟨pa, pc, rfl, pl, pl'⟩ := hp.len
      obtain ⟨qa, qc, rfl, ql, ql'⟩ := hq.len
      have d0 := cell_gr c0 hgr
      have d1 := cell_gr c1 hgr
      have d2 := cell_gr c2 hgr
      have F := netOk_tr HOK.out hlt
      have hpl' : (N.tr k).pre.length = n := by have := F.pre; have := HN.out; omega
      have hql' : (N.tr k).post.length = n := by have := F.post; have := HN.out; omega
      obtain ⟨cb, co, rfl, cc⟩ := hu.cell (show k < c.length by have := HCL.out; omega)
      have HPL := Lib.hid hpl'
      have HQL := Lib.hid hql'
      have HF := Lib.hid F
      have hck : (k : Int) < (c.length : Int) := by have := HCL.out; omega
      clear hpl' hql' F
      obtain ⟨Ht, hHt⟩ : ∃ Ht, wr.heap.size = Ht := ⟨_, rfl⟩
      have hHt2 : w2.heap.size < Ht := by rw [← hHt]; exact (ho.lt (k := w2.heap.size) rfl).2
      have bt0 : Blk (wr.alloc (.cells #[.int .i64 (N.tr k).label, .slice pa (N.tr k).pre.length pc, .slice qa (N.tr k).post.length qc] 54)) Ht 54 #[.int .i64 (N.tr k).label, .slice pa (N.tr k).pre.length pc, .slice qa (N.tr k).post.length qc] := Blk.new hHt
      go_wp2_with fail
      go_loopw [34] (fun i wq => ∃ q : Nat, q ≤ n ∧ i = .int .i64 q ∧ OwnI 3 (w.heap.size + 1) wq (.slice (some ⟨w2.heap.size, 0, none⟩) n n) (effMix N c n k q) ∧ Gr w wq ∧ Blk wq Ht 54 #[.int .i64 (N.tr k).label, .slice pa (N.tr k).pre.length pc, .slice qa (N.tr k).post.length qc]) (fun i _ => n - (intOf i).toNat)
      case atStart => exact ⟨0, Nat.zero_le _, rfl, by rw [effMix_zero]; exact ho.alloc _, by (repeat (first | exact Gr.refl _ | assumption | apply Gr.alloc | apply Gr.drew | apply Gr.drewN | refine Gr.trans ?_ (by assumption))), bt0⟩
      case round =>
        rename_i wq _
        obtain ⟨q, hq', rfl, ho', hgr', hbt⟩ := hrel
        by_cases hqn : q < n
        · have e2 := effMix_at N c (k := k) hqn
          have C0 := ho'.cell (i := q) (by rw [effMix_len]; exact hqn)
          rw [e2] at C0
          have C1 := cell_gr cc hgr'
          have T0 := hbt.cell (i := 0) rfl
          have T1 := hbt.cell (i := 1) rfl
          have T2 := hbt.cell (i := 2) rfl
          have fz := ho'.frozen q
          have tm := term_le HB.out hlt q
          have tl := effTo_le HB.out q k (Nat.le_of_lt hlt)
          have tl' := effTo_le HB.out q (k + 1) hlt
          rw [effTo_succ] at tl'
          have hch := chgT_le HF.out q
          rw [chgT_def] at tm tl' hch
          have tm1 := tm.1
          have tm2 := tm.2
          have tl1 := tl'.1
          have tl2 := tl'.2
          have hI : I64 (effTo N c q k + nth c k * (nth (N.tr k).post q - nth (N.tr k).pre q)) := by unfold I64; omega
          have i1 : (0 : Int) ≤ (q : Int) := by omega
          have i2 : (q : Int) < (n : Int) := by omega
          have i3 : (0 : Int) ≤ (k : Int) := by omega
          clear e2 tm tl tl'
          go_wp2_with fail
          refine cut14 (S := fun w' => w'.cell? ⟨w2.heap.size, q, none⟩ = some (.int .i64 (effTo N c q k)) ∧ w'.cell? ⟨cb, co + k, none⟩ = some (.int .i64 (nth c k)) ∧ w'.cell? ⟨Ht, 0, none⟩ = some (.int .i64 (N.tr k).label) ∧ w'.cell? ⟨Ht, 1, none⟩ = some (.slice pa (N.tr k).pre.length pc) ∧ w'.cell? ⟨Ht, 2, none⟩ = some (.slice qa (N.tr k).post.length qc)) (by kernel_rfl) (by kernel_rfl) ⟨cell_gr C0 (by (repeat (first | exact Gr.refl _ | assumption | apply Gr.alloc | apply Gr.drew | apply Gr.drewN | refine Gr.trans ?_ (by assumption)))), cell_gr C1 (by (repeat (first | exact Gr.refl _ | assumption | apply Gr.alloc | apply Gr.drew | apply Gr.drewN | refine Gr.trans ?_ (by assumption)))), cell_gr T0 (by (repeat (first | exact Gr.refl _ | assumption | apply Gr.alloc | apply Gr.drew | apply Gr.drewN | refine Gr.trans ?_ (by assumption)))), cell_gr T1 (by (repeat (first | exact Gr.refl _ | assumption | apply Gr.alloc | apply Gr.drew | apply Gr.drewN | refine Gr.trans ?_ (by assumption)))), cell_gr T2 (by (repeat (first | exact Gr.refl _ | assumption | apply Gr.alloc | apply Gr.drew | apply Gr.drewN | refine Gr.trans ?_ (by assumption))))⟩ (fun hHeld => ?_)
          (refine hold0 (v := ?_) (by kernel_rfl) (by kernel_rfl) (by kernel_rfl) (fun _ _ _ h => h) (by rfl) (fun w' hSw => ?_) (by assumption) ?_; rotate_left 1; · ((try dsimp only at hSw); (try go_simp); (try (with_reducible rfl))); (try simp only [Act.put, List.setIfInBounds_toArray, List.set_cons_zero, List.set_cons_succ]))
          (refine hold1 (v := ?_) (by kernel_rfl) (by kernel_rfl) (by kernel_rfl) (fun _ _ _ h => h) (by rfl) (fun w' hSw => ?_) (by assumption) ?_; rotate_left 1; · ((try dsimp only at hSw); (try go_simp); (try (with_reducible rfl))); (try simp only [Act.put, List.setIfInBounds_toArray, List.set_cons_zero, List.set_cons_succ]))
          (refine hold2 (v := ?_) (by kernel_rfl) (by kernel_rfl) (by kernel_rfl) (fun _ _ _ h => h) (by rfl) (fun w' hSw => ?_) (by assumption) ?_; rotate_left 1; · ((try dsimp only at hSw); (try go_simp); (try (with_reducible rfl))); (try simp only [Act.put, List.setIfInBounds_toArray, List.set_cons_zero, List.set_cons_succ]))
          (refine hold3 (v := ?_) (by kernel_rfl) (by kernel_rfl) (by kernel_rfl) (fun _ _ _ h => h) (by rfl) (fun w' hSw => ?_) (by assumption) ?_; rotate_left 1; · ((try dsimp only at hSw); (try go_simp); (try (with_reducible rfl))); (try simp only [Act.put, List.setIfInBounds_toArray, List.set_cons_zero, List.set_cons_succ]))
          (refine hold4 (v := ?_) (by kernel_rfl) (by kernel_rfl) (by kernel_rfl) (fun _ _ _ h => h) (by rfl) (fun w' hSw => ?_) (by assumption) ?_; rotate_left 1; · ((try dsimp only at hSw); (try go_simp); (try (with_reducible rfl))); (try simp only [Act.put, List.setIfInBounds_toArray, List.set_cons_zero, List.set_cons_succ]))
          (refine hold5 (v := ?_) (by kernel_rfl) (by kernel_rfl) (by kernel_rfl) (fun _ _ _ h => h) (by rfl) (fun w' hSw => ?_) (by assumption) ?_; rotate_left 1; · ((try dsimp only at hSw); (try go_simp); (try (with_reducible rfl))); (try simp only [Act.put, List.setIfInBounds_toArray, List.set_cons_zero, List.set_cons_succ]))
          (refine hold6 (v := ?_) (by kernel_rfl) (by kernel_rfl) (by kernel_rfl) (fun _ _ _ h => h) (by rfl) (fun w' hSw => ?_) (by assumption) ?_; rotate_left 1; · ((try dsimp only at hSw); (try go_simp); (try (with_reducible rfl))); (try simp only [Act.put, List.setIfInBounds_toArray, List.set_cons_zero, List.set_cons_succ]))
          (refine hold7 (v := ?_) (by kernel_rfl) (by kernel_rfl) (by kernel_rfl) (fun _ _ _ h => h) (by rfl) (fun w' hSw => ?_) (by assumption) ?_; rotate_left 1; · ((try dsimp only at hSw); (try go_simp); (try (with_reducible rfl))); (try simp only [Act.put, List.setIfInBounds_toArray, List.set_cons_zero, List.set_cons_succ]))
          (refine hold8 (v := ?_) (by kernel_rfl) (by kernel_rfl) (by kernel_rfl) (fun _ _ _ h => h) (by rfl) (fun w' hSw => ?_) (by assumption) ?_; rotate_left 1; · ((try dsimp only at hSw); (try go_simp); (try (with_reducible rfl))); (try simp only [Act.put, List.setIfInBounds_toArray, List.set_cons_zero, List.set_cons_succ]))
          (refine hold9 (v := ?_) (by kernel_rfl) (by kernel_rfl) (by kernel_rfl) (fun _ _ _ h => h) (by rfl) (fun w' hSw => ?_) (by assumption) ?_; rotate_left 1; · ((try dsimp only at hSw); (try go_simp); (try (with_reducible rfl))); (try simp only [Act.put, List.setIfInBounds_toArray, List.set_cons_zero, List.set_cons_succ]))
          refine next10 (by kernel_rfl) (fun K hK => ?_)
          go_simp
          refine (change_calls (.int .i64 (N.tr k).label) (.slice pa (N.tr k).pre.length pc) (.slice qa (N.tr k).post.length qc) (N.tr k).label (N.tr k).pre (N.tr k).post q _ (hp.gr (by (repeat (first | exact Gr.refl _ | assumption | apply Gr.alloc | apply Gr.drew | apply Gr.drewN | refine Gr.trans ?_ (by assumption))))) (hq.gr (by (repeat (first | exact Gr.refl _ | assumption | apply Gr.alloc | apply Gr.drew | apply Gr.drewN | refine Gr.trans ?_ (by assumption))))) (by rw [HPL.out]; exact hqn) (by rw [HQL.out]; exact hqn) (by unfold I64; omega)).mono ?_
          rintro _ w5 ⟨rfl, g5⟩
          (refine hK.out _ _ ?_ (fun hHeld => ?_); · (exact ⟨cell_gr C0 (by (repeat (first | exact Gr.refl _ | assumption | apply Gr.alloc | apply Gr.drew | apply Gr.drewN | refine Gr.trans ?_ (by assumption)))), cell_gr C1 (by (repeat (first | exact Gr.refl _ | assumption | apply Gr.alloc | apply Gr.drew | apply Gr.drewN | refine Gr.trans ?_ (by assumption)))), cell_gr T0 (by (repeat (first | exact Gr.refl _ | assumption | apply Gr.alloc | apply Gr.drew | apply Gr.drewN | refine Gr.trans ?_ (by assumption)))), cell_gr T1 (by (repeat (first | exact Gr.refl _ | assumption | apply Gr.alloc | apply Gr.drew | apply Gr.drewN | refine Gr.trans ?_ (by assumption)))), cell_gr T2 (by (repeat (first | exact Gr.refl _ | assumption | apply Gr.alloc | apply Gr.drew | apply Gr.drewN | refine Gr.trans ?_ (by assumption))))⟩))
          clear hK K
          try simp only [Act.put, List.setIfInBounds_toArray, List.set_cons_zero, List.set_cons_succ]
          (refine hold11 (v := ?_) (by kernel_rfl) (by kernel_rfl) (by kernel_rfl) (fun _ _ _ h => h) (by rfl) (fun w' hSw => ?_) (by assumption) ?_; rotate_left 1; · ((try dsimp only at hSw); (try go_simp); (try (with_reducible rfl))); (try simp only [Act.put, List.setIfInBounds_toArray, List.set_cons_zero, List.set_cons_succ]))
          (refine hold12 (v := ?_) (by kernel_rfl) (by kernel_rfl) (by kernel_rfl) (fun _ _ _ h => h) (by rfl) (fun w' hSw => ?_) (by assumption) ?_; rotate_left 1; · ((try dsimp only at hSw); (try go_simp); (try (with_reducible rfl))); (try simp only [Act.put, List.setIfInBounds_toArray, List.set_cons_zero, List.set_cons_succ]))
          (refine hold13 (v := ?_) (by kernel_rfl) (by kernel_rfl) (by kernel_rfl) (fun _ _ _ h => h) (by rfl) (fun w' hSw => ?_) (by assumption) ?_; rotate_left 1; · ((try dsimp only at hSw); (try go_simp); (try (with_reducible rfl))); (try simp only [Act.put, List.setIfInBounds_toArray, List.set_cons_zero, List.set_cons_succ]))
          have fz5 := (ho'.gr (show Gr _ w5 from (by (repeat (first | exact Gr.refl _ | assumption | apply Gr.alloc | apply Gr.drew | apply Gr.drewN | refine Gr.trans ?_ (by assumption)))))).frozen q
          have c5 := cell_gr C0 (show Gr _ w5 from (by (repeat (first | exact Gr.refl _ | assumption | apply Gr.alloc | apply Gr.drew | apply Gr.drewN | refine Gr.trans ?_ (by assumption)))))
          refine ends14 (by kernel_rfl) (fun K hK => ?_)
          go_simp
          refine hK.out _ _ ?_
          go_wp2_with fail
          go_roundw
          case rel =>
            have o5 := (ho'.gr (show Gr _ w5 from (by (repeat (first | exact Gr.refl _ | assumption | apply Gr.alloc | apply Gr.drew | apply Gr.drewN | refine Gr.trans ?_ (by assumption)))))).set q (effTo N c q k + nth c k * (nth (N.tr k).post q - nth (N.tr k).pre q)) hI
            rw [← chgT_def, effMix_set N c hqn, chgT_def] at o5
            exact ⟨q + 1, by omega, by go_num, o5, Gr.setCell (by (repeat (first | exact Gr.refl _ | assumption | apply Gr.alloc | apply Gr.drew | apply Gr.drewN | refine Gr.trans ?_ (by assumption)))) (Nat.le_of_lt Bl) _, (hbt.gr (show Gr _ w5 from (by (repeat (first | exact Gr.refl _ | assumption | apply Gr.alloc | apply Gr.drew | apply Gr.drewN | refine Gr.trans ?_ (by assumption)))))).other (Nat.ne_of_gt hHt2) _⟩
          case measure => simp [intOf]; omega
        · go_wp2_with fail
          go_roundw
          case rel => exact ⟨k + 1, by omega, by go_num, by rw [← effMix_all N c (n := n) (k := k) (q := q) (by omega)]; exact ho', hgr'⟩
          case measure => simp [intOf]; omega
    · go_wp2_with fail
      go_ret2
      have hk' : k = N.trans.length := by omega
      subst hk'
      refine RetIE.mk HC.out ?_ hgr
      rw [← effUp_all N c (n := n) (by rw [HN.out])]
      have := ho.ints
      exact this

theorem Effect_calls (v u : Value) (N : NetD) (c : List Int) (w : World) (hN : NetR w v N) (hu : Ints w u c) :
    Calls Try.prog 28 #[v, u] w (RetIE w (effectF N c)) := by
  cases h1 : netOkB N
  · exact Effect_bad1 v u N c w hN hu h1
  · cases h2 : boundedB c N.trans.length 0
    · exact Effect_bad2 v u N c w hN hu h1 h2
    · exact Effect_ok v u N c w hN hu (effectB_mk h1 h2)
end Go.Proofs.Ytkpbhkfpkoiilaa
