/- Contract of the search that shape.walk hands to itself. -/
import Derived.Test.YtmigejcejnofiaaShape
namespace Go.Proofs.Ytmigejcejnofiaa
open Go.RowKit Go.Tok
set_option linter.unusedVariables false

theorem gb_refl (w : World) (row : Option Nat) : w.grownBy w row := ⟨rfl, rfl, rfl, Nat.le_refl _, fun _ _ _ => rfl⟩
theorem gb_trans {a b c : World} {row : Option Nat} (h : a.grownBy b row) (k : b.grownBy c row) : a.grownBy c row :=
  ⟨k.os.trans h.os, k.tape.trans h.tape, k.output.trans h.output, Nat.le_trans h.size k.size, fun x hx hne => (k.block x (Nat.lt_of_lt_of_le hx h.size) hne).trans (h.block x hx hne)⟩
theorem gb_gr {a b : World} {row : Option Nat} (g : Gr a b) : a.grownBy b row := ⟨g.below.os, g.below.tape, g.below.output, g.le, fun x hx _ => g.below.block x hx⟩
theorem gb_only {a c : World} {b : Nat} (h : OnlyAt b a c) : a.grownBy c (some b) := ⟨h.1, h.2.1, h.2.2.1, Nat.le_of_eq h.2.2.2.1.symm, fun x hx hne => h.2.2.2.2 x (fun e => hne (by rw [e]))⟩

/-- what the search reads: where the map, the net and the search itself lie -/
structure Env (N : NetD) (a : Option Addr) (cap hv nb vv b : Nat) (w0 w : World) : Prop where
  had : w.cell? ⟨hv, 0, none⟩ = some (.map (some b))
  vis : w.cell? ⟨vv, 0, none⟩ = some (.func (.func 101) #[] #[.pointer (some ⟨hv, 0, none⟩), .pointer (some ⟨nb, 0, none⟩), .pointer (some ⟨vv, 0, none⟩)])
  n0 : w.cell? ⟨nb, 0, none⟩ = some (.int .i64 N.places)
  n1 : w.cell? ⟨nb, 1, none⟩ = some (.slice a N.trans.length cap)
  gr : Gr w0 w
  b0 : w0.heap.size ≤ b
  hvb : hv ≠ b
  nbb : nb ≠ b
  vvb : vv ≠ b
theorem Env.grown {N : NetD} {a : Option Addr} {cap hv nb vv b : Nat} {w0 w w' : World} (h : Env N a cap hv nb vv b w0 w) (g : w.grownBy w' (some b)) : Env N a cap hv nb vv b w0 w' :=
  ⟨g.cell h.had (by simpa using h.hvb), g.cell h.vis (by simpa using h.vvb), g.cell h.n0 (by simpa using h.nbb), g.cell h.n1 (by simpa using h.nbb), h.gr.grown g (fun k hk => by cases hk; exact h.b0), h.b0, h.hvb, h.nbb, h.vvb⟩
theorem Env.gr' {N : NetD} {a : Option Addr} {cap hv nb vv b : Nat} {w0 w w' : World} (h : Env N a cap hv nb vv b w0 w) (g : Gr w w') : Env N a cap hv nb vv b w0 w' := h.grown (gb_gr g)

set_option maxHeartbeats 4000000 in
set_option maxRecDepth 100000 in
theorem visit_in (N : NetD) (a : Option Addr) (cap hv nb vv b : Nat) (w0 : World) (m : Nat) (vis : List NodeD) (x : NodeD) (w : World) (hE : Env N a cap hv nb vv b w0 w) (hM : MSet Try.prog 126 w b (vis.map nodeV)) (hx1000 : x.n ≤ 1000) (hv' : x ∈ vis) :
    Calls Try.prog 101 #[.agg #[.bool x.tran, .int .i64 (x.n : Int)], .pointer (some ⟨hv, 0, none⟩), .pointer (some ⟨nb, 0, none⟩), .pointer (some ⟨vv, 0, none⟩)] w fun e w' =>
      e = .returned (.tuple #[]) ∧ MSet Try.prog 126 w' b ((dfsF N (m + 1) vis x).map nodeV) ∧ w.grownBy w' (some b) := by
  obtain ⟨l, hkey⟩ := node_key x hx1000
  have hkey' : keyOf Try.prog 126 (.agg #[.bool x.tran, .int .i64 (x.n : Int)]) = some l := hkey
  have G1 := (Gr.refl w).alloc (.cells #[.bool x.tran, .int .i64 (x.n : Int)] 126)
  have M1 := hM.gr G1
  have E1 := hE.gr' G1
  have c1 := E1.had
  have hl := M1.look_yes nodeLaw Try.underlying85 hkey' (node_in.2 hv')
  have HD := Lib.hid (dfs_in (N := N) (m := m) hv')
  go_enter Try.func101, Try.ntmps101
  go_wp2_with fail
  refine bodyPost_ret (v := .tuple #[]) (by simp [results, Try.results101, go_sem]) rfl ?_
  exact ⟨rfl, by rw [HD.out]; exact M1, gb_gr G1⟩

theorem netOk_p16 {N : NetD} (h : netOkB N = true) : 0 ≤ N.places ∧ N.places ≤ 16 := by
  unfold netOkB at h
  simp only [Bool.and_eq_true, decide_eq_true_eq] at h
  exact ⟨h.1.1.1, h.1.1.2⟩
theorem app_grown {N : NetD} {vis : List NodeD} {x : NodeD} (hx : isNode N x) (hv : x ∉ vis) : Grown N vis (vis ++ [x]) :=
  ⟨List.prefix_append _ _, fun hn y hy => by
    rcases List.mem_append.1 hy with h1 | h1
    · exact hn y h1
    · rw [List.mem_singleton.1 h1]; exact hx, fun hn => List.nodup_append.2 ⟨hn, by simp, fun a ha b hb e => by
    rw [List.mem_singleton.1 hb] at e; subst e; exact hv ha⟩⟩
theorem node_1000 {N : NetD} (hok : netOkB N = true) {x : NodeD} (hx : isNode N x) : x.n ≤ 1000 := by
  have sz : 0 ≤ N.places ∧ N.places ≤ 16 ∧ N.trans.length ≤ 24 := by
    have h := hok
    unfold netOkB at h
    simp only [Bool.and_eq_true, decide_eq_true_eq] at h
    exact ⟨h.1.1.1, h.1.1.2, h.1.2⟩
  unfold isNode at hx
  split at hx <;> omega

set_option maxHeartbeats 4000000 in
set_option maxRecDepth 100000 in
theorem visit_calls (N : NetD) (a : Option Addr) (cap hv nb vv b : Nat) (w0 : World) (hT : TransR w0 (.slice a N.trans.length cap) N.trans) (hok : netOkB N = true) (hcap : N.trans.length ≤ cap) (hcap' : cap ≤ 9223372036854775807) :
    ∀ (m : Nat) (vis : List NodeD) (x : NodeD) (w : World), Env N a cap hv nb vv b w0 w → MSet Try.prog 126 w b (vis.map nodeV) → (∀ y ∈ vis, isNode N y) → isNode N x → sizeN N ≤ vis.length + m →
      Calls Try.prog 101 #[.agg #[.bool x.tran, .int .i64 (x.n : Int)], .pointer (some ⟨hv, 0, none⟩), .pointer (some ⟨nb, 0, none⟩), .pointer (some ⟨vv, 0, none⟩)] w fun e w' =>
        e = .returned (.tuple #[]) ∧ MSet Try.prog 126 w' b ((dfsF N (m + 1) vis x).map nodeV) ∧ w.grownBy w' (some b) := by
  have eg : ∀ args w, (callFunc 101 args).run Try.prog w = .ok (.enter 101 args) w := (Go.Proofs.enters_of Try.func101 (by kernel_rfl) rfl)
  intro m
  induction m with
  | zero =>
    intro vis x w hE hM hvis hx hsz
    have hn : vis.Nodup := by
      have := hM.nodup
      rw [List.Nodup, List.pairwise_map] at this
      exact this.imp fun h e => h (by rw [e])
    exact visit_in N a cap hv nb vv b w0 0 vis x w hE hM (node_1000 hok hx) (nodes_full hn hvis (by omega) hx)
  | succ m ih =>
    intro vis x w hE hM hvis hx hsz
    by_cases hv' : x ∈ vis
    · exact visit_in N a cap hv nb vv b w0 (m + 1) vis x w hE hM (node_1000 hok hx) hv'
    have hx1000 := node_1000 hok hx
    obtain ⟨l, hkey⟩ := node_key x hx1000
    have hkey' : keyOf Try.prog 126 (.agg #[.bool x.tran, .int .i64 (x.n : Int)]) = some l := hkey
    have G1 := (Gr.refl w).alloc (.cells #[.bool x.tran, .int .i64 (x.n : Int)] 126)
    have M1 := hM.gr G1
    have E1 := hE.gr' G1
    have c1 := E1.had
    have k0 : (w.alloc (.cells #[.bool x.tran, .int .i64 (x.n : Int)] 126)).cell? ⟨w.heap.size, 0, none⟩ = some (.bool x.tran) := box_cell (Gr.refl _) (i := 0) rfl
    have k1 : (w.alloc (.cells #[.bool x.tran, .int .i64 (x.n : Int)] 126)).cell? ⟨w.heap.size, 1, none⟩ = some (.int .i64 (x.n : Int)) := box_cell (Gr.refl _) (i := 1) rfl
    have hni : Value.agg #[.bool x.tran, .int .i64 (x.n : Int)] ∉ vis.map nodeV := fun h => hv' (node_in.1 h)
    have hl := M1.look_no nodeLaw Try.underlying85 zeroInt hkey' hni
    have M2 := M1.gr ((Gr.refl _).drew)
    have lk0 := M2.look_no nodeLaw Try.underlying85 zeroInt hkey' hni
    obtain ⟨st, w1, r1, o1, lk1, hst⟩ := M2.entry nodeLaw Try.underlying85 zeroInt hkey' hni
    obtain ⟨w3, r3, o3, M3⟩ := hst w1 rfl
    have r3' : (Instr.entryStore 85 (.map (some b)) (.int .i64 (st : Int)) (.int .i64 1)).run Try.prog w1 = .ok () w3 := r3
    have ew : IntKind.i64.wrap 1 = 1 := by decide
    have gb1 := gb_only o1
    have gb3 := gb_only o3
    have hwb : w.heap.size ≠ b := Nat.ne_of_gt hM.lt
    have d1 := (E1.gr' ((Gr.refl _).drew)).grown gb1 |>.had
    have e0 := gb1.cell (cell_gr k0 ((Gr.refl _).drew)) (by simpa using hwb)
    have e1 := gb1.cell (cell_gr k1 ((Gr.refl _).drew)) (by simpa using hwb)
    have E3 := ((E1.gr' ((Gr.refl _).drew)).grown gb1).grown gb3
    have GB3 : w.grownBy w3 (some b) := gb_trans (gb_trans (gb_gr (G1.trans ((Gr.refl _).drew))) gb1) gb3
    have f0 := gb3.cell e0 (by simpa using hwb)
    have f1 := gb3.cell e1 (by simpa using hwb)
    clear o1 o3 hst G1
    go_enter Try.func101, Try.ntmps101
    go_wp2_with fail
    refine cut6 (S := fun w' => w'.cell? ⟨hv, 0, none⟩ = some (.map (some b)) ∧ w'.cell? ⟨w.heap.size, 0, none⟩ = some (.bool x.tran) ∧ w'.cell? ⟨w.heap.size, 1, none⟩ = some (.int .i64 (x.n : Int)) ∧ (Instr.lookup 85 (.map (some b)) (.agg #[.bool x.tran, .int .i64 (x.n : Int)]) false).run Try.prog w' = .ok (.int .i64 0) w') (by kernel_rfl) (by kernel_rfl) (by exact ⟨cell_gr c1 (by (repeat (first | exact Gr.refl _ | assumption | apply Gr.alloc | apply Gr.drew | apply Gr.drewN | refine Gr.trans ?_ (by assumption)))), cell_gr k0 (by (repeat (first | exact Gr.refl _ | assumption | apply Gr.alloc | apply Gr.drew | apply Gr.drewN | refine Gr.trans ?_ (by assumption)))), cell_gr k1 (by (repeat (first | exact Gr.refl _ | assumption | apply Gr.alloc | apply Gr.drew | apply Gr.drewN | refine Gr.trans ?_ (by assumption)))), lk0⟩) (fun hHeld => ?_)
    (refine hold0 (v := ?_) (by kernel_rfl) (by kernel_rfl) (by kernel_rfl) (fun _ _ _ h => h) (by rfl) (fun w' hSw => ?_) (by assumption) ?_; rotate_left 1; · ((try dsimp only at hSw); (try go_simp); (try (with_reducible rfl))); (try simp only [Act.put, List.setIfInBounds_toArray, List.set_cons_zero, List.set_cons_succ]))
    (refine hold1 (v := ?_) (by kernel_rfl) (by kernel_rfl) (by kernel_rfl) (fun _ _ _ h => h) (by rfl) (fun w' hSw => ?_) (by assumption) ?_; rotate_left 1; · ((try dsimp only at hSw); (try go_simp); (try (with_reducible rfl))); (try simp only [Act.put, List.setIfInBounds_toArray, List.set_cons_zero, List.set_cons_succ]))
    (refine hold2 (v := ?_) (by kernel_rfl) (by kernel_rfl) (by kernel_rfl) (fun _ _ _ h => h) (by rfl) (fun w' hSw => ?_) (by assumption) ?_; rotate_left 1; · ((try dsimp only at hSw); (try go_simp); (try (with_reducible rfl))); (try simp only [Act.put, List.setIfInBounds_toArray, List.set_cons_zero, List.set_cons_succ]))
    (refine hold3 (v := ?_) (by kernel_rfl) (by kernel_rfl) (by kernel_rfl) (fun _ _ _ h => h) (by rfl) (fun w' hSw => ?_) (by assumption) ?_; rotate_left 1; · ((try dsimp only at hSw); (try go_simp); (try (with_reducible rfl))); (try simp only [Act.put, List.setIfInBounds_toArray, List.set_cons_zero, List.set_cons_succ]))
    refine next4 (by kernel_rfl) (fun K hK => ?_)
    go_simp
    (refine hK.out _ _ ?_ (fun hHeld => ?_); · (exact ⟨d1, e0, e1, lk1⟩))
    clear hK K
    try simp only [Act.put, List.setIfInBounds_toArray, List.set_cons_zero, List.set_cons_succ]
    (refine hold5 (v := ?_) (by kernel_rfl) (by kernel_rfl) (by kernel_rfl) (fun _ _ _ h => h) (by rfl) (fun w' hSw => ?_) (by assumption) ?_; rotate_left 1; · ((try dsimp only at hSw); (try go_simp); (try (with_reducible rfl))); (try simp only [Act.put, List.setIfInBounds_toArray, List.set_cons_zero, List.set_cons_succ]))
    refine ends6 (by kernel_rfl) (fun K hK => ?_)
    go_simp
    refine hK.out _ _ ?_
    clear ew r3' r3 r1 lk1 lk0 hl c1 k0 k1 d1 e0 e1 hkey hkey' hni M1 M2 E1
    have M3' : MSet Try.prog 126 w3 b ((foldTo (dfsF N (m + 1)) (vis ++ [x]) N x 0).map nodeV) := by rw [foldTo_zero, List.map_append]; exact M3
    have hgx : Grown N vis (vis ++ [x]) := app_grown hx hv'
    have HD := Lib.hid (dfs_out (N := N) (m := m + 1) hv')
    have n0 := E3.n0
    have n1 := E3.n1
    cases hb : x.tran
    · rw [hb] at f0
      have hxn := node_place hb hx
      have h16 := netOk_p16 hok
      have hps : ∀ k, k < N.trans.length → (N.tr k).pre.length ≤ 16 ∧ x.n < (N.tr k).pre.length := fun k hk => by have := (netOk_tr hok hk).pre; omega
      have HPS := Lib.hid hps
      clear hps
      have i0 : (0 : Int) ≤ (x.n : Int) := by omega
      go_wp2_with fail
      go_loopw [44] (fun i wr => ∃ k : Nat, k ≤ N.trans.length ∧ i = .int .i64 k ∧ MSet Try.prog 126 wr b ((foldTo (dfsF N (m + 1)) (vis ++ [x]) N x k).map nodeV) ∧ w3.grownBy wr (some b)) (fun i _ => N.trans.length - (intOf i).toNat)
      case atStart => exact ⟨0, Nat.zero_le _, rfl, M3', gb_refl _ _⟩
      case round =>
        rename_i wr _
        obtain ⟨k, hk, rfl, hMk, hg⟩ := hrel
        have Ek := E3.grown hg
        by_cases hlt : k < N.trans.length
        · obtain ⟨tb, to, vp, vq, rfl, q0, q1, q2, hlab, hp, hq⟩ := (hT.gr Ek.gr).at_ hlt
          obtain ⟨hp1, hp2⟩ := HPS.out k hlt
          obtain ⟨pa, pc, rfl, pl, pl'⟩ := hp.len
          obtain ⟨qa, qc, rfl, ql, ql'⟩ := hq.len
          have GA : Gr wr (wr.alloc (.cells #[.int .i64 (N.tr k).label, .slice pa (N.tr k).pre.length pc, .slice qa (N.tr k).post.length qc] 74)) := (Gr.refl _).alloc _
          have EA := Ek.gr' GA
          have MA := hMk.gr GA
          have v1 := EA.vis
          have f1' := cell_gr (hg.cell f1 (by simpa using hwb)) GA
          obtain ⟨b2, o2, rfl, c2⟩ := (hp.gr GA).cell hp2
          have i1 : (x.n : Int) < ((N.tr k).pre.length : Int) := by omega
          have hdk : k < degN N x := by rw [deg_place N hb]; exact hlt
          by_cases hw : 0 < nth (N.tr k).pre x.n
          · have HF := Lib.hid (foldTo_yes (f := dfsF N (m + 1)) (vis := vis ++ [x]) (show 0 < wtN N x k by rw [wt_place N hb]; exact hw))
            have hG := hgx.trans (fold_grown hok (m := m + 1) (vis := vis ++ [x]) hx k (Nat.le_of_lt hdk))
            have hlen := (fold_grown hok (m := m + 1) (vis := vis ++ [x]) hx k (Nat.le_of_lt hdk)).pre.length_le
            rw [List.length_append, List.length_singleton] at hlen
            have hcall := ih _ (nextN x k) _ EA MA (hG.nodes hvis) (next_node hok hx hdk) (by omega)
            rw [show (nextN x k).tran = true by simp [nextN, hb], show (nextN x k).n = k from rfl] at hcall
            clear hG hlen
            go_wp2_with (go_at_fn 101; refine hcall.mono ?_; rintro e w4 ⟨rfl, m4, g4⟩)
            go_roundw
            case rel => exact ⟨k + 1, by omega, by go_num, by rw [HF.out]; exact m4, gb_trans (gb_trans hg (gb_gr GA)) g4⟩
            case measure => simp [intOf]; omega
          · have HF := Lib.hid (foldTo_no (f := dfsF N (m + 1)) (vis := vis ++ [x]) (show wtN N x k ≤ 0 by rw [wt_place N hb]; omega))
            have hw' : nth (N.tr k).pre x.n ≤ 0 := by omega
            clear hw
            go_wp2_with fail
            go_roundw
            case rel => exact ⟨k + 1, by omega, by go_num, by rw [HF.out]; exact MA, gb_trans hg (gb_gr GA)⟩
            case measure => simp [intOf]; omega
        · have hke : k = degN N x := by rw [deg_place N hb]; omega
          rw [hke, ← HD.out] at hMk
          clear hke
          go_wp2_with fail
          refine bodyPost_end (results_none rfl _ _ _) rfl ?_
          exact ⟨rfl, hMk, gb_trans GB3 hg⟩
    · rw [hb] at f0
      have hxn := node_tran hb hx
      obtain ⟨tb, to, vp, vq, rfl, q0, q1, q2, hlab, hp, hq0⟩ := hT.at_ hxn
      have q2' := cell_gr q2 E3.gr
      obtain ⟨qa, qc, rfl, ql, ql'⟩ := hq0.len
      have hpn : (N.tr x.n).post.length ≤ 16 := by have := (netOk_tr hok hxn).post; have := node_1000 hok hx; have := netOk_p16 hok; omega
      have i0 : (0 : Int) ≤ (x.n : Int) := by omega
      have i1 : (x.n : Int) < (N.trans.length : Int) := by omega
      go_wp2_with fail
      go_loopw [29] (fun i wr => ∃ k : Nat, k ≤ (N.tr x.n).post.length ∧ i = .int .i64 k ∧ MSet Try.prog 126 wr b ((foldTo (dfsF N (m + 1)) (vis ++ [x]) N x k).map nodeV) ∧ w3.grownBy wr (some b)) (fun i _ => (N.tr x.n).post.length - (intOf i).toNat)
      case atStart => exact ⟨0, Nat.zero_le _, rfl, M3', gb_refl _ _⟩
      case round =>
        rename_i wr _
        obtain ⟨k, hk, rfl, hMk, hg⟩ := hrel
        have Ek := E3.grown hg
        by_cases hlt : k < (N.tr x.n).post.length
        · obtain ⟨b2, o2, rfl, c2⟩ := (hq0.gr Ek.gr).cell hlt
          have v1 := Ek.vis
          have hdk : k < degN N x := by rw [deg_tran N hb]; exact hlt
          by_cases hw : 0 < nth (N.tr x.n).post k
          · have HF := Lib.hid (foldTo_yes (f := dfsF N (m + 1)) (vis := vis ++ [x]) (show 0 < wtN N x k by rw [wt_tran N hb]; exact hw))
            have hG := hgx.trans (fold_grown hok (m := m + 1) (vis := vis ++ [x]) hx k (Nat.le_of_lt hdk))
            have hlen := (fold_grown hok (m := m + 1) (vis := vis ++ [x]) hx k (Nat.le_of_lt hdk)).pre.length_le
            rw [List.length_append, List.length_singleton] at hlen
            have hcall := ih _ (nextN x k) wr Ek hMk (hG.nodes hvis) (next_node hok hx hdk) (by omega)
            rw [show (nextN x k).tran = false by simp [nextN, hb], show (nextN x k).n = k from rfl] at hcall
            clear hG hlen
            go_wp2_with (go_at_fn 101; refine hcall.mono ?_; rintro e w4 ⟨rfl, m4, g4⟩)
            go_roundw
            case rel => exact ⟨k + 1, by omega, by go_num, by rw [HF.out]; exact m4, gb_trans hg g4⟩
            case measure => simp [intOf]; omega
          · have HF := Lib.hid (foldTo_no (f := dfsF N (m + 1)) (vis := vis ++ [x]) (show wtN N x k ≤ 0 by rw [wt_tran N hb]; omega))
            have hw' : nth (N.tr x.n).post k ≤ 0 := by omega
            clear hw
            go_wp2_with fail
            go_roundw
            case rel => exact ⟨k + 1, by omega, by go_num, by rw [HF.out]; exact hMk, hg⟩
            case measure => simp [intOf]; omega
        · have hke : k = degN N x := by rw [deg_tran N hb]; omega
          rw [hke, ← HD.out] at hMk
          clear hke
          go_wp2_with fail
          refine bodyPost_ret (v := .tuple #[]) (by simp [results, Try.results101, go_sem]) rfl ?_
          exact ⟨rfl, hMk, gb_trans GB3 hg⟩
end Go.Proofs.Ytmigejcejnofiaa
