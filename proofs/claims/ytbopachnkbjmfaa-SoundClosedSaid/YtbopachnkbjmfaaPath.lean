/- Contract of reach.Path. -/
import Derived.Test.YtbopachnkbjmfaaGR
import Derived.Test.YtbopachnkbjmfaaGM
import Derived.Test.YtbopachnkbjmfaaRev
namespace Go.Tok
theorem idx_le : ∀ (xs : List (List Int)) (i : Nat) (h : i < xs.length), xs.idxOf xs[i] ≤ i
  | x :: xs, 0, h => by simp
  | x :: xs, i + 1, h => by
    have := idx_le xs i (by simpa using h)
    rw [List.getElem_cons_succ, List.idxOf_cons]
    cases hb : (x == xs[i]'(by simpa using h))
    · simp only [cond_false]; omega
    · simp
theorem firstI_idx {xs : List (List Int)} {g : List Int} (p : List Int → Bool) (hp : ∀ x, p x = true ↔ x = g) : (g ∈ xs ∧ firstI p xs = ((xs.idxOf g : Nat) : Int)) ∨ (g ∉ xs ∧ firstI p xs = -1) := by
  by_cases h : g ∈ xs
  · refine .inl ⟨h, ?_⟩
    obtain ⟨h1, h2⟩ := mem_idx h
    refine firstI_hit (NoneI.intro fun i hi => ?_) h1 ((hp _).2 h2)
    rw [Bool.eq_false_iff]
    intro h3
    have h4 := (hp _).1 h3
    have h5 : i < xs.length := by omega
    rw [ix_lt h5] at h4
    have : xs.idxOf g ≤ i := by
      rw [← h4]
      exact idx_le xs i h5
    omega
  · refine .inr ⟨h, firstI_miss (NoneI.intro fun i hi => ?_)⟩
    rw [Bool.eq_false_iff]
    intro h3
    have := (hp _).1 h3
    exact h (this ▸ ix_mem hi)
end Go.Tok
namespace Go.Proofs.Ytbopachnkbjmfaa
open Go.RowKit Go.Tok
set_option linter.unusedVariables false
theorem Path1_answers (w0 : World) (gb : Nat) (gv : Value) (goal : List Int) (xs : List (List Int)) (hc : w0.cell? ⟨gb, 0, none⟩ = some gv) (hg : Ints w0 gv goal) :
    AnswersRow Try.prog 86 #[.pointer (some ⟨gb, 0, none⟩)] xs (fun x => eqB x goal) w0 := by
  intro W u x hx g hI
  have c := cell_gr hc g
  obtain ⟨ga, gc, rfl, _, _⟩ := hg.len
  go_enter Try.func86, Try.ntmps86
  go_wp2_with fail
  refine (Equal_calls _ _ x goal _ hI (hg.gr g)).mono ?_
  rintro _ w1 ⟨rfl, g1⟩
  go_wp2_with fail
  go_ret
  exact ⟨rfl, g1⟩
theorem path_bad {N : NetD} {m goal : List Int} {most : Int} {s : FinD} {x : Int} (h : searchF N m most = (s, x)) (hx : x ≠ 0) : pathF N m goal most = ([], x) := by unfold pathF; rw [h, if_neg hx]
theorem path_none {N : NetD} {m goal : List Int} {most : Int} {s : FinD} (h : searchF N m most = (s, 0)) (hx : goal ∉ s.marks) : pathF N m goal most = ([], 3) := by unfold pathF; rw [h, if_pos rfl, if_neg hx]
theorem path_ok {N : NetD} {m goal : List Int} {most : Int} {s : FinD} (h : searchF N m most = (s, 0)) (hx : goal ∈ s.marks) : pathF N m goal most = ((trail s (s.marks.idxOf goal)).reverse, 0) := by unfold pathF; rw [h, if_pos rfl, if_pos hx]
set_option maxHeartbeats 8000000 in
set_option maxRecDepth 100000 in
theorem Path_calls (v u z : Value) (N : NetD) (m goal : List Int) (most : Int) (w : World) (hN : NetR w v N) (hu : Ints w u m) (hz : Ints w z goal) (hmo : I64 most) :
    Calls Try.prog 52 #[v, u, z, .int .i64 most] w (RetIO 3 w (pathF N m goal most)) := by
  have hN' := hN
  have T := intTy
  obtain ⟨a, cap, rfl, hnl, hncap, hpl, hT⟩ := hN.open_
  have hpl1 := hpl.1
  have hpl2 := hpl.2
  have eg : ∀ args w, (callFunc 86 args).run Try.prog w = .ok (.enter 86 args) w := (Go.Proofs.enters_of Try.func86 (by kernel_rfl) rfl)
  obtain ⟨za, zc, rfl, _, _⟩ := hz.len
  rcases hsr : searchF N m most with ⟨s, x⟩
  have HSR := Lib.hid hsr
  go_enter Try.func52, Try.ntmps52
  go_wp2_with fail
  refine (search_calls _ _ N m most _ (hN'.gr (by (repeat (first | exact Gr.refl _ | assumption | apply Gr.alloc | apply Gr.drew | apply Gr.drewN | refine Gr.trans ?_ (by assumption))))) (hu.gr (by (repeat (first | exact Gr.refl _ | assumption | apply Gr.alloc | apply Gr.drew | apply Gr.drewN | refine Gr.trans ?_ (by assumption))))) hmo).mono ?_
  rw [hsr]; rintro _ w1 ⟨g1, h1⟩
  clear hsr
  have gw : Gr w w1 := (((Gr.refl w).alloc _).alloc _).trans g1
  have B1 : w1.cell? ⟨w.heap.size + 1, 0, none⟩ = some (.slice za goal.length zc) := by have h := box_cell g1 (i := 0) rfl; simpa using h
  by_cases hx : x = 0
  · subst hx
    rcases h1 with ⟨h1, _⟩ | ⟨_, fb, vn, mo, vmap, vm, va, vf, rfl, hb, hfb, hm, ha, hf⟩
    · exact absurd rfl h1
    replace hm := hm.now
    replace ha := ha.now
    replace hf := hf.now
    obtain ⟨ma, mc, rfl, _, _⟩ := hm.len
    obtain ⟨aa, ac, rfl, _, _⟩ := ha.len
    obtain ⟨fa, fc, rfl, _, _⟩ := hf.len
    have W := (search_ok HSR.out).2.2.2
    have c4 := hb.cell (i := 4) rfl
    have hgr2 := hz.gr gw
    clear g1 hfb
    rcases firstI_idx (xs := s.marks) (g := goal) (fun x => eqB x goal) (fun x => eqB_iff x goal) with ⟨hin, hfi⟩ | ⟨hin, hfi⟩
    · have HC := Lib.hid (path_ok HSR.out hin)
      have HFI := Lib.hid hfi
      have hk0 := (mem_idx hin).1
      obtain ⟨k0, hk0e⟩ : ∃ k0, k0 = s.marks.idxOf goal := ⟨_, rfl⟩
      rw [← hk0e] at hk0
      have HK := Lib.hid hk0e
      have hmax : s.marks.length ≤ 300 := by have := W.le; have := (search_ok HSR.out).2.1; omega
      clear hin hfi hk0e
      go_wp2_with fail
      refine (IndexFuncRow_calls _ s.marks 86 _ (fun x => eqB x goal) _ eg hm (Path1_answers _ _ _ goal _ B1 hgr2)).mono ?_
      rw [HFI.out, ← HK.out]; rintro _ w2 ⟨rfl, g2⟩
      replace gw := gw.trans g2
      have b2 := hb.gr g2
      have c5 := b2.cell (i := 5) rfl
      have c6 := b2.cell (i := 6) rfl
      replace ha := ha.gr g2
      replace hf := hf.gr g2
      clear c4 hm B1 hgr2 hb g2
      go_wp2_with fail
      go_loopw [12, 13] (fun kv out wr => ∃ (k : Nat) (done : List Int), kv = .int .i64 k ∧ k < s.marks.length ∧ OwnI 3 w2.heap.size wr out done ∧ Hid (done ++ trail s k = trail s k0) ∧ Gr w2 wr ∧ done.length ≤ 300 - k) (fun kv _ _ => (intOf kv).toNat)
      case atStart => exact ⟨k0, [], rfl, hk0, OwnI.nil _ _ _, Lib.hid rfl, Gr.refl _, Nat.zero_le _⟩
      case round =>
        rename_i wr
        obtain ⟨k, done, rfl, hkl, ho, HT, hgr, hdl⟩ := hrel
        by_cases h0 : 0 < k
        · obtain ⟨i, t, q, e1, e2, e3, e4, e5, _⟩ := trail_arc W h0 hkl
          have d5 := cell_gr c5 hgr
          have d6 := cell_gr c6 hgr
          obtain ⟨pb, po, rfl, cf⟩ := (hf.gr hgr).cell (i := k) (by rw [W.flen]; exact hkl)
          rw [e1] at cf
          obtain ⟨ab, ao, rfl, a0, a1, a2, hI⟩ := (ha.gr hgr).arc (i := q) e2
          rw [e3] at a0 a1 a2 hI
          have hkI : (k : Int) < (s.first.length : Int) := by rw [W.flen]; omega
          have hqI : (q : Int) < (s.arcs.length : Int) := by omega
          have htI : I64 (t : Int) := hI.2.1
          have HT2 : Hid ((done ++ [(t : Int)]) ++ trail s i = trail s k0) := Lib.hid (by rw [← HT.out, e4]; simp)
          obtain ⟨oa, oc, rfl, _, _⟩ := ho.ints.len
          have HNE := Lib.hid (show (Value.slice oa done.length oc).ownBlock ≠ some wr.heap.size from fun e => by have := (ho.lt e).2; omega)
          clear e1 e3 e4 HT
          go_wp2_with fail
          go_region_held3 (fun w' => w'.cell? ⟨fb, 5, none⟩ = some (.slice (some ⟨ab, ao, none⟩) s.arcs.length ac) ∧ w'.cell? ⟨fb, 6, none⟩ = some (.slice (some ⟨pb, po, none⟩) s.first.length fc) ∧ w'.cell? ⟨pb, po + k, none⟩ = some (.int .i64 (q : Int)) ∧ w'.cell? ⟨ab, ao + q * 3, none⟩ = some (.int .i64 (i : Int)) ∧ w'.cell? ⟨ab, ao + q * 3 + 1, none⟩ = some (.int .i64 (t : Int)) ∧ w'.cell? ⟨ab, ao + q * 3 + 2, none⟩ = some (.int .i64 (k : Int))) (first | go_keep | ((refine ⟨cell_gr d5 ?_, cell_gr d6 ?_, cell_gr cf ?_, cell_gr a0 ?_, cell_gr a1 ?_, cell_gr a2 ?_⟩); (all_goals (focus ((repeat (first | exact Gr.refl _ | assumption | apply Gr.alloc | apply Gr.drew | apply Gr.drewN | refine Gr.trans ?_ (by assumption))); done))))) (fail)
          have GA : Gr wr (((wr.alloc (.cells #[.int .i64 (i : Int), .int .i64 (t : Int), .int .i64 (k : Int)] 90)).alloc (.cells #[.int .i64 (t : Int)] 3)).drew) := (((Gr.refl _).alloc _).alloc _).drew
          have A0 : (((wr.alloc (.cells #[.int .i64 (i : Int), .int .i64 (t : Int), .int .i64 (k : Int)] 90)).alloc (.cells #[.int .i64 (t : Int)] 3)).drew).cell? ⟨wr.heap.size + 1, 0, none⟩ = some (.int .i64 (t : Int)) := cell_gr (lit_cell (by simp)) ((Gr.refl _).drew)
          have A1 : (((wr.alloc (.cells #[.int .i64 (i : Int), .int .i64 (t : Int), .int .i64 (k : Int)] 90)).alloc (.cells #[.int .i64 (t : Int)] 3)).drew).cell? ⟨wr.heap.size, 0, none⟩ = some (.int .i64 (i : Int)) := box_cell (((Gr.refl _).alloc _).drew) (i := 0) rfl
          go_wp2_with (at_builtin; go_loud (refine app_int T _ _ w2.heap.size (.slice oa done.length oc) done ⟨wr.heap.size + 1, 0, none⟩ (t : Int) (by rfl) (by rfl) (by rfl) (by rfl) (ho.gr GA) A0 htI (by omega) (hgr.trans GA).le ?_; intro v' w5 ho5 hgs hgb hat; have A2 := hgb.cell A1 (fun e => HNE.out e.symm)))
          go_roundw
          case rel => exact ⟨i, done ++ [(t : Int)], rfl, by omega, ho5, HT2, hgs w2 (Nat.le_refl _) (hgr.trans GA), by simp; omega⟩
          case measure => simp [intOf]; omega
        · have hk00 : k = 0 := by omega
          subst hk00
          have ht := HT.out
          rw [trail_zero, List.append_nil] at ht
          have hbs := hgr.le
          go_wp2_with fail
          refine (Reverse_calls _ done w2.heap.size _ ho hbs).mono ?_
          rintro _ w5 ⟨rfl, o5, hgs⟩
          have gw5 : Gr w w5 := gw.trans (hgs w2 (Nat.le_refl _) hgr)
          rw [ht] at o5
          have HR := Lib.hid (show pathF N m goal most = ((trail s k0).reverse, 0) by rw [HC.out, HK.out])
          go_wp2_with fail
          go_ret2
          exact RetIO.mk HR.out o5 gw.le gw5
    · have HC := Lib.hid (path_none HSR.out hin)
      have HFI := Lib.hid hfi
      clear hin hfi
      go_wp2_with fail
      refine (IndexFuncRow_calls _ s.marks 86 _ (fun x => eqB x goal) _ eg hm (Path1_answers _ _ _ goal _ B1 hgr2)).mono ?_
      rw [HFI.out]; rintro _ w2 ⟨rfl, g2⟩
      go_wp2_with fail
      go_ret2
      exact RetIO.nil HC.out (gw.trans g2)
  · rcases h1 with ⟨_, rfl⟩ | ⟨h1, _⟩
    rotate_left
    · exact absurd h1 hx
    have HC := Lib.hid (path_bad (goal := goal) HSR.out hx)
    have q1 : (x != 0) = true := by simpa using hx
    go_wp2_with fail
    go_ret2
    exact RetIO.nil HC.out gw
end Go.Proofs.Ytbopachnkbjmfaa
