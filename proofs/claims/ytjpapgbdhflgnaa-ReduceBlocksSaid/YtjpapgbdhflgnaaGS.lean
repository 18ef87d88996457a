/- Contracts of shape.one, shape.Start. -/
import Derived.Test.YtjpapgbdhflgnaaGN
import Derived.Test.YtjpapgbdhflgnaaPC
import Derived.Test.YtjpapgbdhflgnaaGM
import Derived.Test.YtjpapgbdhflgnaaPA
import Derived.Test.YtjpapgbdhflgnaaPB
import Derived.Laws.EntriesVeiled
namespace Go.Tok
open Go.RowKit
/-- one token at a place -/
def oneN (n : Nat) (p : Int) : List Int := if 0 ≤ p ∧ p < n then (List.replicate n 0).set p.toNat 1 else List.replicate n 0
theorem oneN_in {n : Nat} {p : Int} (h : 0 ≤ p) (h' : p < n) : (List.replicate n 0).set p.toNat 1 = oneN n p := by unfold oneN; rw [if_pos ⟨h, h'⟩]
theorem oneN_out {n : Nat} {p : Int} (h : ¬ (0 ≤ p ∧ p < n)) : List.replicate n 0 = oneN n p := by unfold oneN; rw [if_neg h]
theorem oneN_len (n : Nat) (p : Int) : (oneN n p).length = n := by unfold oneN; split <;> simp
theorem nth_oneN (n i p : Nat) (hi : i < n) : nth (oneN n (i : Int)) p = if p = i then 1 else 0 := by
  rw [← oneN_in (by omega) (by omega)]
  simp only [Int.toNat_natCast]
  by_cases hp : p < n
  · rw [nth_set _ _ _ (by simpa using hp), nth_lt (by simpa using hp)]
    by_cases h : p = i
    · rw [if_pos h.symm, if_pos h]
    · rw [if_neg (fun e => h e.symm), if_neg h]; simp
  · rw [nth_ge (by simp; omega), if_neg (by omega)]
end Go.Tok
namespace Go.Proofs.Ytjpapgbdhflgnaa
open Go.RowKit Go.Tok
set_option linter.unusedVariables false

theorem netOk_p16 {N : NetD} (h : netOkB N = true) : 0 ≤ N.places ∧ N.places ≤ 16 := by
  unfold netOkB at h
  simp only [Bool.and_eq_true, decide_eq_true_eq] at h
  exact ⟨h.1.1.1, h.1.1.2⟩
theorem netOk_n24 {N : NetD} (h : netOkB N = true) : N.trans.length ≤ 24 := by
  unfold netOkB at h
  simp only [Bool.and_eq_true, decide_eq_true_eq] at h
  exact h.1.2
set_option maxRecDepth 100000 in
theorem one_calls (n : Nat) (c p : Int) (w : World) (hc : max c 0 = (n : Int)) (hc1 : -9223372036854775808 ≤ c) (hn : n ≤ 16) (hp : I64 p) :
    Calls Try.prog 60 #[.int .i64 c, .int .i64 p] w fun e w' => ∃ v', e = .returned v' ∧ OwnI 3 w.heap.size w' v' (oneN n p) ∧ Gr w w' := by
  have T := intTy
  have p1 := hp.1
  have p2 := hp.2
  by_cases h0 : 0 ≤ p ∧ p < n
  · obtain ⟨h1, h2⟩ := h0
    have HE := Lib.hid (oneN_in h1 h2)
    obtain ⟨k, rfl⟩ := Int.eq_ofNat_of_zero_le h1
    go_enter Try.func60, Try.ntmps60
    go_wp2_with (at_make; refine mk_ints T _ _ w.heap.size n _ _ rfl rfl rfl rfl (by omega) (by omega) (by omega) (Nat.le_refl _) ?_; intro w1 hown hb hlt; have hc' := hown.cell (i := k) (by simp; omega); have hfz := hown.frozen k)
    all_goals go_ret
    all_goals exact ⟨_, rfl, by rw [← HE.out]; exact hown.set k 1 ⟨by omega, by omega⟩, hb.setCell (Nat.le_refl _) _⟩
  · have HE := Lib.hid (oneN_out h0)
    go_enter Try.func60, Try.ntmps60
    go_wp2_with (at_make; refine mk_ints T _ _ w.heap.size n _ _ rfl rfl rfl rfl (by omega) (by omega) (by omega) (Nat.le_refl _) ?_; intro w1 hown hb hlt)
    all_goals go_ret
    all_goals exact ⟨_, rfl, by rw [← HE.out]; exact hown, hb⟩

def startLen (N : NetD) : Nat := (max (min N.places 16) 0).toNat
theorem startLen_le (N : NetD) : startLen N ≤ 16 := by unfold startLen; omega
theorem startLen_ok {N : NetD} (h : netOkB N = true) : startLen N = N.places.toNat := by
  have := netOk_p16 h
  unfold startLen; omega

set_option maxRecDepth 100000 in
theorem Start_calls (v : Value) (N : NetD) (i : Int) (w : World) (hN : NetR w v N) (hi : I64 i) :
    Calls Try.prog 33 #[v, .int .i64 i] w fun e w' => ∃ v', e = .returned v' ∧ OwnI 3 w.heap.size w' v' (oneN (startLen N) i) ∧ Gr w w' := by
  obtain ⟨a, cap, rfl, hnl, hncap, hpl, hT⟩ := hN.open_
  have hpl1 := hpl.1
  have hpl2 := hpl.2
  have hm1 : max (min N.places 16) 0 = (startLen N : Int) := by unfold startLen; omega
  have hm2 := startLen_le N
  rcases (show N.places ≤ 16 ∨ 16 < N.places by omega) with hm3 | hm3
  · have hm4 : min N.places 16 = N.places := by omega
    rw [hm4] at hm1
    have HM := Lib.hid hm1
    clear hm1
    go_enter Try.func33, Try.ntmps33
    go_wp2_with (go_at_call 60; refine (one_calls (startLen N) _ i _ HM.out (by omega) hm2 hi).mono ?_; rintro e w1 ⟨v1, rfl, o1, g1⟩)
    all_goals go_ret
    all_goals exact ⟨_, rfl, o1.low (by rw [World.size_alloc]; omega), by (repeat (first | exact Gr.refl _ | assumption | apply Gr.alloc | apply Gr.drew | apply Gr.drewN | refine Gr.trans ?_ (by assumption)))⟩
  · have hm4 : min N.places 16 = 16 := by omega
    rw [hm4] at hm1
    have HM := Lib.hid hm1
    clear hm1
    go_enter Try.func33, Try.ntmps33
    go_wp2_with (go_at_call 60; refine (one_calls (startLen N) _ i _ HM.out (by omega) hm2 hi).mono ?_; rintro e w1 ⟨v1, rfl, o1, g1⟩)
    all_goals go_ret
    all_goals exact ⟨_, rfl, o1.low (by rw [World.size_alloc]; omega), by (repeat (first | exact Gr.refl _ | assumption | apply Gr.alloc | apply Gr.drew | apply Gr.drewN | refine Gr.trans ?_ (by assumption)))⟩
end Go.Proofs.Ytjpapgbdhflgnaa

/- Contract of shape.walk: which nodes it finds. -/
namespace Go.Proofs.Ytjpapgbdhflgnaa
open Go.RowKit Go.Tok
open Go.WideMaps (KeyLaw)
open Go.WideElems
set_option linter.unusedVariables false

def nodeV (x : NodeD) : Value := .agg #[.bool x.tran, .int .i64 (x.n : Int)]
theorem nodeV_inj {x y : NodeD} (h : nodeV x = nodeV y) : x = y := by
  obtain ⟨a, m⟩ := x
  obtain ⟨b, n⟩ := y
  simp only [nodeV, Value.agg.injEq, Array.mk.injEq, List.cons.injEq, Value.bool.injEq, Value.int.injEq, true_and, and_true] at h
  simp only [NodeD.mk.injEq]
  exact ⟨h.1, by omega⟩
theorem node_in {vis : List NodeD} {x : NodeD} : nodeV x ∈ vis.map nodeV ↔ x ∈ vis := by
  rw [List.mem_map]
  constructor
  · rintro ⟨y, hy, h⟩; rw [← nodeV_inj h]; exact hy
  · exact fun h => ⟨x, h, rfl⟩
set_option maxRecDepth 100000 in
theorem nodeLaidOut : laidOutB Try.prog = true := by kernel_rfl
set_option maxRecDepth 100000 in
theorem nodeRow : 101 < Try.prog.types.size := of_decide_eq_true (by kernel_rfl)
set_option maxRecDepth 100000 in
theorem nodeWide : (match Try.prog.underlying 101 with | some (.array _ _) | some (.struct _) => true | _ => false) = true := by kernel_rfl
set_option maxRecDepth 100000 in
theorem nodeLaw : KeyLaw Try.prog 101 := deep_law_laid nodeLaidOut (m := 2) (by omega) nodeRow (by kernel_rfl) nodeWide
set_option maxRecDepth 100000 in
theorem zeroInt (u : World) : (zeroValue 3).run Try.prog u = .ok (.int .i64 0) u := by kernel_rfl
theorem key_pair {P : Program} {k : TypeId} {fs : Array Field} {f0 f1 : Field} (hk : P.underlying k = some (.struct fs)) (hfs : fs = #[f0, f1]) (o0 : f0.offset = 0) (o1 : f1.offset = 1) (h0 : P.underlying f0.type = some .bool) (h1 : P.underlying f1.type = some (.int .i64))
    (c0 : P.cellsOf f0.type = 1) (c1 : P.cellsOf f1.type = 1) (ck : P.cellsOf k = 2) (hn : fs.all (·.name != "_") = true) (hkt : P.keyType k = true) (m : Nat) (hsz : P.types.size = m + 1) (b : Bool) (n : Int) (hw : (Lit.int .i64 n).wf = true) : ∃ l, keyOf P k (.agg #[.bool b, .int .i64 n]) = some l := by
  subst hfs
  have hf : (Value.agg #[.bool b, .int .i64 n]).formed P k = true := by simp [Value.formed, hk, ck]
  have hl : P.keyLits (P.types.size + 1) k (Value.agg #[.bool b, .int .i64 n]).cells.toList = some [.bool b, .int .i64 n] := by
    rw [hsz]
    unfold Program.keyLits
    rw [hk]
    have hn' := hn
    simp only [Value.cells, List.length_cons, List.length_nil, ck, hn, and_self, if_true]
    simp [o0, o1, c0, c1, Program.keyLits, h0, h1, hw]
  have : keyOf P k (Value.agg #[.bool b, .int .i64 n]) = some (.string (keyBytes [.bool b, .int .i64 n])) := by
    unfold keyOf
    rw [hk]
    simp [hkt, hf, hl]
  exact ⟨_, this⟩
set_option maxRecDepth 100000 in
theorem node_key (x : NodeD) (h : x.n ≤ 1000) : ∃ l, keyOf Try.prog 101 (nodeV x) = some l := by
  obtain ⟨t, n⟩ := x
  have hw : (Lit.int .i64 (n : Int)).wf = true := by
    simp [Lit.wf, IntKind.min, IntKind.max, IntKind.bits, IntKind.signed]
    simp at h
    omega
  exact key_pair Try.underlying101 rfl rfl rfl Try.underlying4 Try.underlying3 (by kernel_rfl) (by kernel_rfl) (by kernel_rfl) (by kernel_rfl) (by kernel_rfl) (Try.prog.types.size - 1) (by kernel_rfl) t n hw
end Go.Proofs.Ytjpapgbdhflgnaa

/- Contract of the search that shape.walk hands to itself. -/
namespace Go.Proofs.Ytjpapgbdhflgnaa
open Go.RowKit Go.Tok
set_option linter.unusedVariables false

theorem gb_refl (w : World) (row : Option Nat) : w.grownBy w row := ⟨rfl, rfl, rfl, Nat.le_refl _, fun _ _ _ => rfl⟩
theorem gb_trans {a b c : World} {row : Option Nat} (h : a.grownBy b row) (k : b.grownBy c row) : a.grownBy c row :=
  ⟨k.os.trans h.os, k.tape.trans h.tape, k.output.trans h.output, Nat.le_trans h.size k.size, fun x hx hne => (k.block x (Nat.lt_of_lt_of_le hx h.size) hne).trans (h.block x hx hne)⟩
theorem gb_gr {a b : World} {row : Option Nat} (g : Gr a b) : a.grownBy b row := ⟨g.below.os, g.below.tape, g.below.output, g.le, fun x hx _ => g.below.block x hx⟩
theorem gb_only {a c : World} {b : Nat} (h : OnlyAt b a c) : a.grownBy c (some b) := ⟨h.1, h.2.1, h.2.2.1, Nat.le_of_eq h.2.2.2.1.symm, fun x hx hne => h.2.2.2.2 x (fun e => hne (by rw [e]))⟩

/-- what the search reads: where the map, the net and the search itself lie -/
structure Env (N : NetD) (a : Option Addr) (cap hv nb vv b : Nat) (w0 w : World) : Prop where
  had : w.cell? ⟨hv, 0, none⟩ = some (.map (some b))
  vis : w.cell? ⟨vv, 0, none⟩ = some (.func (.func 58) #[] #[.pointer (some ⟨hv, 0, none⟩), .pointer (some ⟨nb, 0, none⟩), .pointer (some ⟨vv, 0, none⟩)])
  n0 : w.cell? ⟨nb, 0, none⟩ = some (.int .i64 N.places)
  n1 : w.cell? ⟨nb, 1, none⟩ = some (.slice a N.trans.length cap)
  gr : Gr w0 w
  b0 : w0.heap.size ≤ b
  hvb : hv ≠ b
  nbb : nb ≠ b
  vvb : vv ≠ b
theorem Env.grown {N : NetD} {a : Option Addr} {cap hv nb vv b : Nat} {w0 w w' : World} (h : Env N a cap hv nb vv b w0 w) (g : w.grownBy w' (some b)) : Env N a cap hv nb vv b w0 w' :=
  ⟨g.cell h.had (by simpa using h.hvb), g.cell h.vis (by simpa using h.vvb), g.cell h.n0 (by simpa using h.nbb), g.cell h.n1 (by simpa using h.nbb), h.gr.grown g (fun k hk => by cases hk; exact h.b0), h.b0, h.hvb, h.nbb, h.vvb⟩
theorem Env.gr' {N : NetD} {a : Option Addr} {cap hv nb vv b : Nat} {w0 w w' : World} (h : Env N a cap hv nb vv b w0 w) (g : Gr w w') : Env N a cap hv nb vv b w0 w' := h.grown (gb_gr g)

set_option maxHeartbeats 4000000 in
set_option maxRecDepth 100000 in
theorem visit_in (N : NetD) (a : Option Addr) (cap hv nb vv b : Nat) (w0 : World) (m : Nat) (vis : List NodeD) (x : NodeD) (w : World) (hE : Env N a cap hv nb vv b w0 w) (hM : MSet Try.prog 101 w b (vis.map nodeV)) (hx1000 : x.n ≤ 1000) (hv' : x ∈ vis) :
    Calls Try.prog 58 #[.agg #[.bool x.tran, .int .i64 (x.n : Int)], .pointer (some ⟨hv, 0, none⟩), .pointer (some ⟨nb, 0, none⟩), .pointer (some ⟨vv, 0, none⟩)] w fun e w' =>
      e = .returned (.tuple #[]) ∧ MSet Try.prog 101 w' b ((dfsF N (m + 1) vis x).map nodeV) ∧ w.grownBy w' (some b) := by
  obtain ⟨l, hkey⟩ := node_key x hx1000
  have hkey' : keyOf Try.prog 101 (.agg #[.bool x.tran, .int .i64 (x.n : Int)]) = some l := hkey
  have G1 := (Gr.refl w).alloc (.cells #[.bool x.tran, .int .i64 (x.n : Int)] 101)
  have M1 := hM.gr G1
  have E1 := hE.gr' G1
  have c1 := E1.had
  have hl := M1.look_yes nodeLaw Try.underlying69 hkey' (node_in.2 hv')
  have HD := Lib.hid (dfs_in (N := N) (m := m) hv')
  go_enter Try.func58, Try.ntmps58
  go_wp2_with fail
  refine bodyPost_ret (v := .tuple #[]) (by simp [results, Try.results58, go_sem]) rfl ?_
  exact ⟨rfl, by rw [HD.out]; exact M1, gb_gr G1⟩

theorem app_grown {N : NetD} {vis : List NodeD} {x : NodeD} (hx : isNode N x) (hv : x ∉ vis) : Grown N vis (vis ++ [x]) :=
  ⟨List.prefix_append _ _, fun hn y hy => by
    rcases List.mem_append.1 hy with h1 | h1
    · exact hn y h1
    · rw [List.mem_singleton.1 h1]; exact hx, fun hn => List.nodup_append.2 ⟨hn, by simp, fun a ha b hb e => by
    rw [List.mem_singleton.1 hb] at e; subst e; exact hv ha⟩⟩
theorem node_1000 {N : NetD} (hok : netOkB N = true) {x : NodeD} (hx : isNode N x) : x.n ≤ 1000 := by
  have sz : 0 ≤ N.places ∧ N.places ≤ 16 ∧ N.trans.length ≤ 24 := by
    have h := hok
    unfold netOkB at h
    simp only [Bool.and_eq_true, decide_eq_true_eq] at h
    exact ⟨h.1.1.1, h.1.1.2, h.1.2⟩
  unfold isNode at hx
  split at hx <;> omega

set_option maxHeartbeats 4000000 in
set_option maxRecDepth 100000 in
theorem visit_calls (N : NetD) (a : Option Addr) (cap hv nb vv b : Nat) (w0 : World) (hT : TransR w0 (.slice a N.trans.length cap) N.trans) (hok : netOkB N = true) (hcap : N.trans.length ≤ cap) (hcap' : cap ≤ 9223372036854775807) :
    ∀ (m : Nat) (vis : List NodeD) (x : NodeD) (w : World), Env N a cap hv nb vv b w0 w → MSet Try.prog 101 w b (vis.map nodeV) → (∀ y ∈ vis, isNode N y) → isNode N x → sizeN N ≤ vis.length + m →
      Calls Try.prog 58 #[.agg #[.bool x.tran, .int .i64 (x.n : Int)], .pointer (some ⟨hv, 0, none⟩), .pointer (some ⟨nb, 0, none⟩), .pointer (some ⟨vv, 0, none⟩)] w fun e w' =>
        e = .returned (.tuple #[]) ∧ MSet Try.prog 101 w' b ((dfsF N (m + 1) vis x).map nodeV) ∧ w.grownBy w' (some b) := by
  have eg : ∀ args w, (callFunc 58 args).run Try.prog w = .ok (.enter 58 args) w := (Go.Proofs.enters_of Try.func58 (by kernel_rfl) rfl)
  intro m
  induction m with
  | zero =>
    intro vis x w hE hM hvis hx hsz
    have hn : vis.Nodup := by
      have := hM.nodup
      rw [List.Nodup, List.pairwise_map] at this
      exact this.imp fun h e => h (by rw [e])
    exact visit_in N a cap hv nb vv b w0 0 vis x w hE hM (node_1000 hok hx) (nodes_full hn hvis (by omega) hx)
  | succ m ih =>
    intro vis x w hE hM hvis hx hsz
    by_cases hv' : x ∈ vis
    · exact visit_in N a cap hv nb vv b w0 (m + 1) vis x w hE hM (node_1000 hok hx) hv'
    have hx1000 := node_1000 hok hx
    obtain ⟨l, hkey⟩ := node_key x hx1000
    have hkey' : keyOf Try.prog 101 (.agg #[.bool x.tran, .int .i64 (x.n : Int)]) = some l := hkey
    have G1 := (Gr.refl w).alloc (.cells #[.bool x.tran, .int .i64 (x.n : Int)] 101)
    have M1 := hM.gr G1
    have E1 := hE.gr' G1
    have c1 := E1.had
    have k0 : (w.alloc (.cells #[.bool x.tran, .int .i64 (x.n : Int)] 101)).cell? ⟨w.heap.size, 0, none⟩ = some (.bool x.tran) := box_cell (Gr.refl _) (i := 0) rfl
    have k1 : (w.alloc (.cells #[.bool x.tran, .int .i64 (x.n : Int)] 101)).cell? ⟨w.heap.size, 1, none⟩ = some (.int .i64 (x.n : Int)) := box_cell (Gr.refl _) (i := 1) rfl
    have hni : Value.agg #[.bool x.tran, .int .i64 (x.n : Int)] ∉ vis.map nodeV := fun h => hv' (node_in.1 h)
    have hl := M1.look_no nodeLaw Try.underlying69 zeroInt hkey' hni
    have M2 := M1.gr ((Gr.refl _).drew)
    have lk0 := M2.look_no nodeLaw Try.underlying69 zeroInt hkey' hni
    obtain ⟨st, w1, r1, o1, lk1, hst⟩ := M2.entry nodeLaw Try.underlying69 zeroInt hkey' hni
    obtain ⟨w3, r3, o3, M3⟩ := hst w1 rfl
    have r3' : (Instr.entryStore 69 (.map (some b)) (.int .i64 (st : Int)) (.int .i64 1)).run Try.prog w1 = .ok () w3 := r3
    have ew : IntKind.i64.wrap 1 = 1 := by decide
    have gb1 := gb_only o1
    have gb3 := gb_only o3
    have hwb : w.heap.size ≠ b := Nat.ne_of_gt hM.lt
    have d1 := (E1.gr' ((Gr.refl _).drew)).grown gb1 |>.had
    have e0 := gb1.cell (cell_gr k0 ((Gr.refl _).drew)) (by simpa using hwb)
    have e1 := gb1.cell (cell_gr k1 ((Gr.refl _).drew)) (by simpa using hwb)
    have E3 := ((E1.gr' ((Gr.refl _).drew)).grown gb1).grown gb3
    have GB3 : w.grownBy w3 (some b) := gb_trans (gb_trans (gb_gr (G1.trans ((Gr.refl _).drew))) gb1) gb3
    have f0 := gb3.cell e0 (by simpa using hwb)
    have f1 := gb3.cell e1 (by simpa using hwb)
    clear o1 o3 hst G1
    go_enter Try.func58, Try.ntmps58
    go_wp2_with fail
    refine cut6 (S := fun w' => w'.cell? ⟨hv, 0, none⟩ = some (.map (some b)) ∧ w'.cell? ⟨w.heap.size, 0, none⟩ = some (.bool x.tran) ∧ w'.cell? ⟨w.heap.size, 1, none⟩ = some (.int .i64 (x.n : Int)) ∧ (Instr.lookup 69 (.map (some b)) (.agg #[.bool x.tran, .int .i64 (x.n : Int)]) false).run Try.prog w' = .ok (.int .i64 0) w') (by kernel_rfl) (by kernel_rfl) (by exact ⟨cell_gr c1 (by (repeat (first | exact Gr.refl _ | assumption | apply Gr.alloc | apply Gr.drew | apply Gr.drewN | refine Gr.trans ?_ (by assumption)))), cell_gr k0 (by (repeat (first | exact Gr.refl _ | assumption | apply Gr.alloc | apply Gr.drew | apply Gr.drewN | refine Gr.trans ?_ (by assumption)))), cell_gr k1 (by (repeat (first | exact Gr.refl _ | assumption | apply Gr.alloc | apply Gr.drew | apply Gr.drewN | refine Gr.trans ?_ (by assumption)))), lk0⟩) (fun hHeld => ?_)
    (refine hold0 (v := ?_) (by kernel_rfl) (by kernel_rfl) (by kernel_rfl) (fun _ _ _ h => h) (by rfl) (fun w' hSw => ?_) (by assumption) ?_; rotate_left 1; · ((try dsimp only at hSw); (try go_simp); (try (with_reducible rfl))); (try simp only [Act.put, List.setIfInBounds_toArray, List.set_cons_zero, List.set_cons_succ]))
    (refine hold1 (v := ?_) (by kernel_rfl) (by kernel_rfl) (by kernel_rfl) (fun _ _ _ h => h) (by rfl) (fun w' hSw => ?_) (by assumption) ?_; rotate_left 1; · ((try dsimp only at hSw); (try go_simp); (try (with_reducible rfl))); (try simp only [Act.put, List.setIfInBounds_toArray, List.set_cons_zero, List.set_cons_succ]))
    (refine hold2 (v := ?_) (by kernel_rfl) (by kernel_rfl) (by kernel_rfl) (fun _ _ _ h => h) (by rfl) (fun w' hSw => ?_) (by assumption) ?_; rotate_left 1; · ((try dsimp only at hSw); (try go_simp); (try (with_reducible rfl))); (try simp only [Act.put, List.setIfInBounds_toArray, List.set_cons_zero, List.set_cons_succ]))
    (refine hold3 (v := ?_) (by kernel_rfl) (by kernel_rfl) (by kernel_rfl) (fun _ _ _ h => h) (by rfl) (fun w' hSw => ?_) (by assumption) ?_; rotate_left 1; · ((try dsimp only at hSw); (try go_simp); (try (with_reducible rfl))); (try simp only [Act.put, List.setIfInBounds_toArray, List.set_cons_zero, List.set_cons_succ]))
    refine next4 (by kernel_rfl) (fun K hK => ?_)
    go_simp
    (refine hK.out _ _ ?_ (fun hHeld => ?_); · (exact ⟨d1, e0, e1, lk1⟩))
    clear hK K
    try simp only [Act.put, List.setIfInBounds_toArray, List.set_cons_zero, List.set_cons_succ]
    (refine hold5 (v := ?_) (by kernel_rfl) (by kernel_rfl) (by kernel_rfl) (fun _ _ _ h => h) (by rfl) (fun w' hSw => ?_) (by assumption) ?_; rotate_left 1; · ((try dsimp only at hSw); (try go_simp); (try (with_reducible rfl))); (try simp only [Act.put, List.setIfInBounds_toArray, List.set_cons_zero, List.set_cons_succ]))
    refine ends6 (by kernel_rfl) (fun K hK => ?_)
    go_simp
    refine hK.out _ _ ?_
    clear ew r3' r3 r1 lk1 lk0 hl c1 k0 k1 d1 e0 e1 hkey hkey' hni M1 M2 E1
    have M3' : MSet Try.prog 101 w3 b ((foldTo (dfsF N (m + 1)) (vis ++ [x]) N x 0).map nodeV) := by rw [foldTo_zero, List.map_append]; exact M3
    have hgx : Grown N vis (vis ++ [x]) := app_grown hx hv'
    have HD := Lib.hid (dfs_out (N := N) (m := m + 1) hv')
    have n0 := E3.n0
    have n1 := E3.n1
    cases hb : x.tran
    · rw [hb] at f0
      have hxn := node_place hb hx
      have h16 := netOk_p16 hok
      have hps : ∀ k, k < N.trans.length → (N.tr k).pre.length ≤ 16 ∧ x.n < (N.tr k).pre.length := fun k hk => by have := (netOk_tr hok hk).pre; omega
      have HPS := Lib.hid hps
      clear hps
      have i0 : (0 : Int) ≤ (x.n : Int) := by omega
      go_wp2_with fail
      go_loopw [44] (fun i wr => ∃ k : Nat, k ≤ N.trans.length ∧ i = .int .i64 k ∧ MSet Try.prog 101 wr b ((foldTo (dfsF N (m + 1)) (vis ++ [x]) N x k).map nodeV) ∧ w3.grownBy wr (some b)) (fun i _ => N.trans.length - (intOf i).toNat)
      case atStart => exact ⟨0, Nat.zero_le _, rfl, M3', gb_refl _ _⟩
      case round =>
        rename_i wr _
        obtain ⟨k, hk, rfl, hMk, hg⟩ := hrel
        have Ek := E3.grown hg
        by_cases hlt : k < N.trans.length
        · obtain ⟨tb, to, vp, vq, rfl, q0, q1, q2, hlab, hp, hq⟩ := (hT.gr Ek.gr).at_ hlt
          obtain ⟨hp1, hp2⟩ := HPS.out k hlt
          obtain ⟨pa, pc, rfl, pl, pl'⟩ := hp.len
          obtain ⟨qa, qc, rfl, ql, ql'⟩ := hq.len
          have GA : Gr wr (wr.alloc (.cells #[.int .i64 (N.tr k).label, .slice pa (N.tr k).pre.length pc, .slice qa (N.tr k).post.length qc] 48)) := (Gr.refl _).alloc _
          have EA := Ek.gr' GA
          have MA := hMk.gr GA
          have v1 := EA.vis
          have f1' := cell_gr (hg.cell f1 (by simpa using hwb)) GA
          obtain ⟨b2, o2, rfl, c2⟩ := (hp.gr GA).cell hp2
          have i1 : (x.n : Int) < ((N.tr k).pre.length : Int) := by omega
          have hdk : k < degN N x := by rw [deg_place N hb]; exact hlt
          by_cases hw : 0 < nth (N.tr k).pre x.n
          · have HF := Lib.hid (foldTo_yes (f := dfsF N (m + 1)) (vis := vis ++ [x]) (show 0 < wtN N x k by rw [wt_place N hb]; exact hw))
            have hG := hgx.trans (fold_grown hok (m := m + 1) (vis := vis ++ [x]) hx k (Nat.le_of_lt hdk))
            have hlen := (fold_grown hok (m := m + 1) (vis := vis ++ [x]) hx k (Nat.le_of_lt hdk)).pre.length_le
            rw [List.length_append, List.length_singleton] at hlen
            have hcall := ih _ (nextN x k) _ EA MA (hG.nodes hvis) (next_node hok hx hdk) (by omega)
            rw [show (nextN x k).tran = true by simp [nextN, hb], show (nextN x k).n = k from rfl] at hcall
            clear hG hlen
            go_wp2_with (go_at_fn 58; refine hcall.mono ?_; rintro e w4 ⟨rfl, m4, g4⟩)
            go_roundw
            case rel => exact ⟨k + 1, by omega, by go_num, by rw [HF.out]; exact m4, gb_trans (gb_trans hg (gb_gr GA)) g4⟩
            case measure => simp [intOf]; omega
          · have HF := Lib.hid (foldTo_no (f := dfsF N (m + 1)) (vis := vis ++ [x]) (show wtN N x k ≤ 0 by rw [wt_place N hb]; omega))
            have hw' : nth (N.tr k).pre x.n ≤ 0 := by omega
            clear hw
            go_wp2_with fail
            go_roundw
            case rel => exact ⟨k + 1, by omega, by go_num, by rw [HF.out]; exact MA, gb_trans hg (gb_gr GA)⟩
            case measure => simp [intOf]; omega
        · have hke : k = degN N x := by rw [deg_place N hb]; omega
          rw [hke, ← HD.out] at hMk
          clear hke
          go_wp2_with fail
          refine bodyPost_end (results_none rfl _ _ _) rfl ?_
          exact ⟨rfl, hMk, gb_trans GB3 hg⟩
    · rw [hb] at f0
      have hxn := node_tran hb hx
      obtain ⟨tb, to, vp, vq, rfl, q0, q1, q2, hlab, hp, hq0⟩ := hT.at_ hxn
      have q2' := cell_gr q2 E3.gr
      obtain ⟨qa, qc, rfl, ql, ql'⟩ := hq0.len
      have hpn : (N.tr x.n).post.length ≤ 16 := by have := (netOk_tr hok hxn).post; have := node_1000 hok hx; have := netOk_p16 hok; omega
      have i0 : (0 : Int) ≤ (x.n : Int) := by omega
      have i1 : (x.n : Int) < (N.trans.length : Int) := by omega
      go_wp2_with fail
      go_loopw [29] (fun i wr => ∃ k : Nat, k ≤ (N.tr x.n).post.length ∧ i = .int .i64 k ∧ MSet Try.prog 101 wr b ((foldTo (dfsF N (m + 1)) (vis ++ [x]) N x k).map nodeV) ∧ w3.grownBy wr (some b)) (fun i _ => (N.tr x.n).post.length - (intOf i).toNat)
      case atStart => exact ⟨0, Nat.zero_le _, rfl, M3', gb_refl _ _⟩
      case round =>
        rename_i wr _
        obtain ⟨k, hk, rfl, hMk, hg⟩ := hrel
        have Ek := E3.grown hg
        by_cases hlt : k < (N.tr x.n).post.length
        · obtain ⟨b2, o2, rfl, c2⟩ := (hq0.gr Ek.gr).cell hlt
          have v1 := Ek.vis
          have hdk : k < degN N x := by rw [deg_tran N hb]; exact hlt
          by_cases hw : 0 < nth (N.tr x.n).post k
          · have HF := Lib.hid (foldTo_yes (f := dfsF N (m + 1)) (vis := vis ++ [x]) (show 0 < wtN N x k by rw [wt_tran N hb]; exact hw))
            have hG := hgx.trans (fold_grown hok (m := m + 1) (vis := vis ++ [x]) hx k (Nat.le_of_lt hdk))
            have hlen := (fold_grown hok (m := m + 1) (vis := vis ++ [x]) hx k (Nat.le_of_lt hdk)).pre.length_le
            rw [List.length_append, List.length_singleton] at hlen
            have hcall := ih _ (nextN x k) wr Ek hMk (hG.nodes hvis) (next_node hok hx hdk) (by omega)
            rw [show (nextN x k).tran = false by simp [nextN, hb], show (nextN x k).n = k from rfl] at hcall
            clear hG hlen
            go_wp2_with (go_at_fn 58; refine hcall.mono ?_; rintro e w4 ⟨rfl, m4, g4⟩)
            go_roundw
            case rel => exact ⟨k + 1, by omega, by go_num, by rw [HF.out]; exact m4, gb_trans hg g4⟩
            case measure => simp [intOf]; omega
          · have HF := Lib.hid (foldTo_no (f := dfsF N (m + 1)) (vis := vis ++ [x]) (show wtN N x k ≤ 0 by rw [wt_tran N hb]; omega))
            have hw' : nth (N.tr x.n).post k ≤ 0 := by omega
            clear hw
            go_wp2_with fail
            go_roundw
            case rel => exact ⟨k + 1, by omega, by go_num, by rw [HF.out]; exact hMk, hg⟩
            case measure => simp [intOf]; omega
        · have hke : k = degN N x := by rw [deg_tran N hb]; omega
          rw [hke, ← HD.out] at hMk
          clear hke
          go_wp2_with fail
          refine bodyPost_ret (v := .tuple #[]) (by simp [results, Try.results58, go_sem]) rfl ?_
          exact ⟨rfl, hMk, gb_trans GB3 hg⟩
end Go.Proofs.Ytjpapgbdhflgnaa

/- Contract of shape.walk: a map whose keys are the nodes that the search finds. -/
namespace Go.Proofs.Ytjpapgbdhflgnaa
open Go.RowKit Go.Tok
set_option linter.unusedVariables false

theorem env_walk (t0 t1 t2 : TypeId) (N : NetD) (a : Option Addr) (cap : Nat) (w : World) :
    Env N a cap (w.heap.size + 1 + 1) w.heap.size (w.heap.size + 1 + 1 + 1) (w.heap.size + 1) (w.alloc (Obj.cells #[Value.int IntKind.i64 N.places, Value.slice a N.trans.length cap] t0))
      ((((w.alloc (Obj.cells #[Value.int IntKind.i64 N.places, Value.slice a N.trans.length cap] t0)).alloc (Obj.map #[] 0)).alloc (Obj.cells #[Value.map (some (w.heap.size + 1))] t1)).alloc
        (Obj.cells #[Value.func (Fn.func 58) #[] #[Value.pointer (some ⟨w.heap.size + 1 + 1, 0, none⟩), Value.pointer (some ⟨w.heap.size, 0, none⟩), Value.pointer (some ⟨w.heap.size + 1 + 1 + 1, 0, none⟩)]] t2)) := by
  have G1 := (Gr.refl (w.alloc (Obj.cells #[Value.int IntKind.i64 N.places, Value.slice a N.trans.length cap] t0))).alloc (Obj.map #[] 0)
  have G2 := G1.alloc (Obj.cells #[Value.map (some (w.heap.size + 1))] t1)
  have G3 := G2.alloc (Obj.cells #[Value.func (Fn.func 58) #[] #[Value.pointer (some ⟨w.heap.size + 1 + 1, 0, none⟩), Value.pointer (some ⟨w.heap.size, 0, none⟩), Value.pointer (some ⟨w.heap.size + 1 + 1 + 1, 0, none⟩)]] t2)
  have s1 : ∀ (u : World) (o : Obj), (u.alloc o).heap.size = u.heap.size + 1 := World.size_alloc
  constructor
  · have := box_cell (w := ((w.alloc (Obj.cells #[Value.int IntKind.i64 N.places, Value.slice a N.trans.length cap] t0)).alloc (Obj.map #[] 0))) (cs := #[Value.map (some (w.heap.size + 1))]) (t := t1) (Gr.refl _) (i := 0) rfl
    rw [s1, s1] at this
    exact cell_gr this ((Gr.refl _).alloc _)
  · have := box_cell (w := (((w.alloc (Obj.cells #[Value.int IntKind.i64 N.places, Value.slice a N.trans.length cap] t0)).alloc (Obj.map #[] 0)).alloc (Obj.cells #[Value.map (some (w.heap.size + 1))] t1))) (cs := #[Value.func (Fn.func 58) #[] #[Value.pointer (some ⟨w.heap.size + 1 + 1, 0, none⟩), Value.pointer (some ⟨w.heap.size, 0, none⟩), Value.pointer (some ⟨w.heap.size + 1 + 1 + 1, 0, none⟩)]]) (t := t2) (Gr.refl _) (i := 0) rfl
    rw [s1, s1, s1] at this
    exact this
  · exact cell_gr (box_cell (Gr.refl _) (i := 0) rfl) G3
  · exact cell_gr (box_cell (Gr.refl _) (i := 1) rfl) G3
  · exact G3
  · rw [s1]; exact Nat.le_refl _
  · omega
  · omega
  · omega

set_option maxHeartbeats 4000000 in
set_option maxRecDepth 100000 in
theorem walk_calls (v : Value) (N : NetD) (i : Nat) (w : World) (hN : NetR w v N) (hok : netOkB N = true) (hi : i < N.places.toNat) :
    Calls Try.prog 28 #[v, .int .i64 (i : Int)] w fun e w' => ∃ b, e = .returned (.map (some b)) ∧ MSet Try.prog 101 w' b ((walkN N i).map nodeV) ∧ Gr w w' := by
  have hmm := @run_makeMap Try.prog
  have eg : ∀ args w, (callFunc 58 args).run Try.prog w = .ok (.enter 58 args) w := (Go.Proofs.enters_of Try.func58 (by kernel_rfl) rfl)
  obtain ⟨a, cap, rfl, hnl, hncap, hpl, hT⟩ := hN.open_
  have hpl1 := hpl.1
  have hpl2 := hpl.2
  have E0 := env_walk 28 69 99 N a cap w
  have M0 : MSet Try.prog 101 (w.alloc (Obj.cells #[Value.int IntKind.i64 N.places, Value.slice a N.trans.length cap] 28) |>.alloc (Obj.map #[] 0)) (w.heap.size + 1) ([].map nodeV) := by
    have := MSet.new (P := Try.prog) (k := 101) (w.alloc (Obj.cells #[Value.int IntKind.i64 N.places, Value.slice a N.trans.length cap] 28))
    simpa only [World.size_alloc, List.map_nil] using this
  have M1 := (M0.gr ((Gr.refl _).alloc (Obj.cells #[Value.map (some (w.heap.size + 1))] 69))).gr ((Gr.refl _).alloc (Obj.cells #[Value.func (Fn.func 58) #[] #[Value.pointer (some ⟨w.heap.size + 1 + 1, 0, none⟩), Value.pointer (some ⟨w.heap.size, 0, none⟩), Value.pointer (some ⟨w.heap.size + 1 + 1 + 1, 0, none⟩)]] 99))
  have hcall := visit_calls N a cap _ _ _ _ _ (hT.gr ((Gr.refl w).alloc (Obj.cells #[Value.int IntKind.i64 N.places, Value.slice a N.trans.length cap] 28))) hok hnl hncap (sizeN N) [] ⟨false, i⟩ _ E0 M1 (by simp) (by simpa [isNode] using hi) (by simp)
  have HW := Lib.hid (show dfsF N (sizeN N + 1) [] ⟨false, i⟩ = walkN N i from (walkN_def N i).symm)
  go_enter Try.func28, Try.ntmps28
  go_wp2_with (go_at_fn 58; refine hcall.mono ?_; rintro e w4 ⟨rfl, m4, g4⟩; have E4 := (E0.grown g4); have h4 := E4.had)
  refine bodyPost_ret (v := .map (some (w.heap.size + 1))) (by simp [results, Try.results28, go_sem]) rfl ?_
  exact ⟨_, rfl, by rw [← HW.out]; exact m4, ((Gr.refl w).alloc _).trans E4.gr⟩
end Go.Proofs.Ytjpapgbdhflgnaa

/- Contracts of shape.one, Start, Wrong$1, Wrong. -/
namespace Go.Tok
open Go.RowKit
theorem MSet.len_run {P : Program} {t k e : TypeId} {w : World} {b : Nat} {xs : List Value} (h : MSet P k w b xs) (ht : P.underlying t = some (.map k e)) (ty : TypeId) :
    (Builtin.len_ #[t] ty #[.map (some b)]).run P w = .ok (.int .i64 (xs.length : Int)) w := by
  obtain ⟨es, clock, hb, _, rfl, _⟩ := h
  simp [Builtin.len_, run_underlying ht, MapKept.run_getObj_map hb, goInt, Result.andThen]

/-- a transition at the end of it all, or at the beginning -/
def endB (i o : Nat) (t : TranD) : Bool := decide (0 < nth t.post i) || decide (0 < nth t.pre o)
def shapeC (N : NetD) (i o : Int) : Int :=
  if netOkB N then
    (if i < 0 ∨ o < 0 ∨ N.places ≤ i ∨ N.places ≤ o ∨ i = o then 1
     else if N.trans.any (endB i.toNat o.toNat) then 1
     else if (walkN N i.toNat).length < sizeN N ∨ (walkN (turnN N) o.toNat).length < sizeN N then 1 else 0)
  else 2
theorem shapeC_bad {N : NetD} (h : netOkB N = false) (i o : Int) : shapeC N i o = 2 := by unfold shapeC; rw [h]; rfl
theorem shapeC_range {N : NetD} (h : netOkB N = true) {i o : Int} (hr : i < 0 ∨ o < 0 ∨ N.places ≤ i ∨ N.places ≤ o ∨ i = o) : shapeC N i o = 1 := by unfold shapeC; rw [if_pos h, if_pos hr]
theorem shapeC_end {N : NetD} (h : netOkB N = true) {i o : Nat} (hr : ¬ ((i : Int) < 0 ∨ (o : Int) < 0 ∨ N.places ≤ (i : Int) ∨ N.places ≤ (o : Int) ∨ (i : Int) = o)) (he : N.trans.any (endB i o) = true) : shapeC N i o = 1 := by
  unfold shapeC; rw [if_pos h, if_neg hr, Int.toNat_natCast, Int.toNat_natCast, if_pos he]
theorem shapeC_walk {N : NetD} (h : netOkB N = true) {i o : Nat} (hr : ¬ ((i : Int) < 0 ∨ (o : Int) < 0 ∨ N.places ≤ (i : Int) ∨ N.places ≤ (o : Int) ∨ (i : Int) = o)) (he : N.trans.any (endB i o) = false) :
    shapeC N i o = if (walkN N i).length < sizeN N ∨ (walkN (turnN N) o).length < sizeN N then 1 else 0 := by
  unfold shapeC; rw [if_pos h, if_neg hr, Int.toNat_natCast, Int.toNat_natCast, if_neg (by rw [he]; decide)]
end Go.Tok
namespace Go.Proofs.Ytjpapgbdhflgnaa
open Go.RowKit Go.Tok
set_option linter.unusedVariables false

set_option maxRecDepth 100000 in
theorem ShapeWrong1_answers (w0 : World) (ib ob i o : Nat) (ts : List TranD) (hi : w0.cell? ⟨ib, 0, none⟩ = some (.int .i64 (i : Int))) (ho : w0.cell? ⟨ob, 0, none⟩ = some (.int .i64 (o : Int))) (hl : ∀ t ∈ ts, i < t.post.length ∧ o < t.pre.length ∧ t.pre.length ≤ 16 ∧ t.post.length ≤ 16) :
    AnswersTr Try.prog 27 #[.pointer (some ⟨ib, 0, none⟩), .pointer (some ⟨ob, 0, none⟩)] ts (endB i o) w0 := by
  intro W vp vq t ht g hlab hp hq
  obtain ⟨l1, l2, l3, l4⟩ := hl t ht
  obtain ⟨pa, pc, rfl, _, _⟩ := hp.len
  obtain ⟨qa, qc, rfl, _, _⟩ := hq.len
  have G1 : Gr W (W.alloc (.cells #[.int .i64 t.label, .slice pa t.pre.length pc, .slice qa t.post.length qc] 48)) := (Gr.refl _).alloc _
  have hi' := cell_gr (cell_gr hi g) G1
  have ho' := cell_gr (cell_gr ho g) G1
  obtain ⟨pb, po, rfl, hpc⟩ := (hp.gr G1).cell l2
  obtain ⟨qb, qo, rfl, hqc⟩ := (hq.gr G1).cell l1
  have i0 : (i : Int) < (t.post.length : Int) := by omega
  have i1 : (o : Int) < (t.pre.length : Int) := by omega
  have hb : endB i o t = (decide (0 < nth t.post i) || decide (0 < nth t.pre o)) := rfl
  by_cases h1 : 0 < nth t.post i
  · have HB := Lib.hid (show endB i o t = true by rw [hb]; simp [h1])
    clear hb
    go_enter Try.func27, Try.ntmps27
    go_wp2_with fail
    all_goals go_ret
    all_goals exact ⟨ret_bool (by first | exact HB.out.symm | rfl), by (repeat (first | exact Gr.refl _ | assumption | apply Gr.alloc | apply Gr.drew | apply Gr.drewN | refine Gr.trans ?_ (by assumption)))⟩
  · have h1' : nth t.post i ≤ 0 := by omega
    by_cases h2 : 0 < nth t.pre o
    · have HB := Lib.hid (show endB i o t = true by rw [hb]; simp [h2])
      clear hb h1
      go_enter Try.func27, Try.ntmps27
      go_wp2_with fail
      all_goals go_ret
      all_goals exact ⟨ret_bool (by first | exact HB.out.symm | rfl), by (repeat (first | exact Gr.refl _ | assumption | apply Gr.alloc | apply Gr.drew | apply Gr.drewN | refine Gr.trans ?_ (by assumption)))⟩
    · have h2' : nth t.pre o ≤ 0 := by omega
      have HB := Lib.hid (show endB i o t = false by rw [hb]; simp [h1', h2'])
      clear hb h1 h2
      go_enter Try.func27, Try.ntmps27
      go_wp2_with fail
      all_goals go_ret
      all_goals exact ⟨ret_bool (by first | exact HB.out.symm | rfl), by (repeat (first | exact Gr.refl _ | assumption | apply Gr.alloc | apply Gr.drew | apply Gr.drewN | refine Gr.trans ?_ (by assumption)))⟩

theorem walk_le {N : NetD} (h : netOkB N = true) {i : Nat} (hi : i < N.places.toNat) : (walkN N i).length ≤ sizeN N := by
  have g := walk_grown h hi
  exact nodes_le (g.nodup List.nodup_nil) (g.nodes (by simp))

theorem boxes3 (w : World) (cs : Array Value) (u v : Value) (t0 t1 t2 : TypeId) (u0 u1 : Value) (h0 : cs[0]? = some u0) (h1 : cs[1]? = some u1) :
    ∀ W, W = ((w.alloc (.cells cs t0)).alloc (.cells #[u] t1)).alloc (.cells #[v] t2) →
      W.cell? ⟨w.heap.size, 0, none⟩ = some u0 ∧ W.cell? ⟨w.heap.size, 1, none⟩ = some u1 ∧ W.cell? ⟨w.heap.size + 1, 0, none⟩ = some u ∧ W.cell? ⟨w.heap.size + 1 + 1, 0, none⟩ = some v ∧ Gr w W := by
  rintro W rfl
  have G2 : Gr (w.alloc (.cells cs t0)) (((w.alloc (.cells cs t0)).alloc (.cells #[u] t1)).alloc (.cells #[v] t2)) := ((Gr.refl _).alloc _).alloc _
  refine ⟨cell_gr (box_cell (Gr.refl _) (i := 0) h0) G2, cell_gr (box_cell (Gr.refl _) (i := 1) h1) G2, ?_, ?_, ((Gr.refl w).alloc _).trans G2⟩
  · have := box_cell (w := w.alloc (.cells cs t0)) (cs := #[u]) (t := t1) (Gr.refl _) (i := 0) rfl
    rw [World.size_alloc] at this
    exact cell_gr this ((Gr.refl _).alloc _)
  · have := box_cell (w := (w.alloc (.cells cs t0)).alloc (.cells #[u] t1)) (cs := #[v]) (t := t2) (Gr.refl _) (i := 0) rfl
    rw [World.size_alloc, World.size_alloc] at this
    exact this

set_option maxHeartbeats 4000000 in
set_option maxRecDepth 100000 in
theorem ShapeWrong_calls (v : Value) (N : NetD) (i o : Int) (w : World) (hN : NetR w v N) (hi : I64 i) (ho : I64 o) :
    Calls Try.prog 10 #[v, .int .i64 i, .int .i64 o] w fun e w' => e = .returned (.int .i64 (shapeC N i o)) ∧ Gr w w' := by
  obtain ⟨a, cap, rfl, hnl, hncap, hpl, hT⟩ := hN.open_
  have hpl1 := hpl.1
  have hpl2 := hpl.2
  have i1 := hi.1
  have i2 := hi.2
  have o1 := ho.1
  have o2 := ho.2
  cases hok : netOkB N
  case false =>
    have HC := Lib.hid (shapeC_bad hok i o)
    have e1 := wrongC_no hok
    obtain ⟨B0, B1, B2, B3, G0⟩ := boxes3 w #[.int .i64 N.places, .slice a N.trans.length cap] (.int .i64 i) (.int .i64 o) 28 3 3 _ _ rfl rfl _ rfl
    go_enter Try.func10, Try.ntmps10
    go_wp2_with fail
    refine (Wrong_calls _ N _ (hN.gr (by (repeat (first | exact Gr.refl _ | assumption | apply Gr.alloc | apply Gr.drew | apply Gr.drewN | refine Gr.trans ?_ (by assumption)))))).mono ?_
    rw [e1]; rintro _ w1 ⟨rfl, g1⟩
    go_wp2_with fail
    go_ret
    exact ⟨ret_i64 HC.out.symm, by (repeat (first | exact Gr.refl _ | assumption | apply Gr.alloc | apply Gr.drew | apply Gr.drewN | refine Gr.trans ?_ (by assumption)))⟩
  case true =>
    have e1 := wrongC_yes hok
    by_cases hr : i < 0 ∨ o < 0 ∨ N.places ≤ i ∨ N.places ≤ o ∨ i = o
    · have HC := Lib.hid (shapeC_range hok hr)
      rcases (show i < 0 ∨ (0 ≤ i ∧ o < 0) ∨ (0 ≤ i ∧ 0 ≤ o ∧ N.places ≤ i) ∨ (0 ≤ i ∧ 0 ≤ o ∧ i < N.places ∧ N.places ≤ o) ∨ (0 ≤ i ∧ 0 ≤ o ∧ i < N.places ∧ o < N.places ∧ o = i) by omega) with h | ⟨h, h1⟩ | ⟨h, h1, h2⟩ | ⟨h, h1, h2, h3⟩ | ⟨h, h1, h2, h3, h4⟩
      all_goals clear hr
      iterate 4
        focus
          obtain ⟨B0, B1, B2, B3, G0⟩ := boxes3 w #[.int .i64 N.places, .slice a N.trans.length cap] (.int .i64 i) (.int .i64 o) 28 3 3 _ _ rfl rfl _ rfl
          go_enter Try.func10, Try.ntmps10
          go_wp2_with fail
          refine (Wrong_calls _ N _ (hN.gr (by (repeat (first | exact Gr.refl _ | assumption | apply Gr.alloc | apply Gr.drew | apply Gr.drewN | refine Gr.trans ?_ (by assumption)))))).mono ?_
          rw [e1]; rintro _ w1 ⟨rfl, g1⟩
          replace B0 := cell_gr B0 g1
          replace B2 := cell_gr B2 g1
          replace B3 := cell_gr B3 g1
          go_wp2_with fail
          go_ret
          exact ⟨ret_i64 HC.out.symm, by (repeat (first | exact Gr.refl _ | assumption | apply Gr.alloc | apply Gr.drew | apply Gr.drewN | refine Gr.trans ?_ (by assumption)))⟩
      subst h4
      obtain ⟨B0, B1, B2, B3, G0⟩ := boxes3 w #[.int .i64 N.places, .slice a N.trans.length cap] (.int .i64 o) (.int .i64 o) 28 3 3 _ _ rfl rfl _ rfl
      go_enter Try.func10, Try.ntmps10
      go_wp2_with fail
      refine (Wrong_calls _ N _ (hN.gr (by (repeat (first | exact Gr.refl _ | assumption | apply Gr.alloc | apply Gr.drew | apply Gr.drewN | refine Gr.trans ?_ (by assumption)))))).mono ?_
      rw [e1]; rintro _ w1 ⟨rfl, g1⟩
      replace B0 := cell_gr B0 g1
      replace B2 := cell_gr B2 g1
      replace B3 := cell_gr B3 g1
      go_wp2_with fail
      go_ret
      exact ⟨ret_i64 HC.out.symm, by (repeat (first | exact Gr.refl _ | assumption | apply Gr.alloc | apply Gr.drew | apply Gr.drewN | refine Gr.trans ?_ (by assumption)))⟩
    · obtain ⟨i, rfl⟩ := Int.eq_ofNat_of_zero_le (show 0 ≤ i by omega)
      obtain ⟨o, rfl⟩ := Int.eq_ofNat_of_zero_le (show 0 ≤ o by omega)
      have hio : ((i : Int) == (o : Int)) = false := by simp; omega
      have hi' : i < N.places.toNat := by omega
      have ho' : o < N.places.toNat := by omega
      have hip : (i : Int) < N.places := by omega
      have hop : (o : Int) < N.places := by omega
      have h16 := netOk_p16 hok
      have hi0 : (0 : Int) ≤ (i : Int) := by omega
      have ho0 : (0 : Int) ≤ (o : Int) := by omega
      have eg : ∀ args w, (callFunc 27 args).run Try.prog w = .ok (.enter 27 args) w := (Go.Proofs.enters_of Try.func27 (by kernel_rfl) rfl)
      have hl : ∀ t ∈ N.trans, i < t.post.length ∧ o < t.pre.length ∧ t.pre.length ≤ 16 ∧ t.post.length ≤ 16 := fun t ht => by
        obtain ⟨j, hj, rfl⟩ := List.getElem_of_mem ht
        have F := netOk_tr hok hj
        rw [NetD.tr, List.getD_eq_getElem?_getD, List.getElem?_eq_getElem hj] at F
        have f1 := F.pre
        have f2 := F.post
        simp only [Option.getD_some] at f1 f2
        omega
      have HL0 := Lib.hid hl
      clear hl
      cases he : N.trans.any (endB i o)
      case true =>
        have HC := Lib.hid (shapeC_end hok hr he)
        clear hr
        obtain ⟨B0, B1, B2, B3, G0⟩ := boxes3 w #[.int .i64 N.places, .slice a N.trans.length cap] (.int .i64 i) (.int .i64 o) 28 3 3 _ _ rfl rfl _ rfl
        go_enter Try.func10, Try.ntmps10
        go_wp2_with fail
        refine (Wrong_calls _ N _ (hN.gr (by (repeat (first | exact Gr.refl _ | assumption | apply Gr.alloc | apply Gr.drew | apply Gr.drewN | refine Gr.trans ?_ (by assumption)))))).mono ?_
        rw [e1]; rintro _ w1 ⟨rfl, g1⟩
        replace B0 := cell_gr B0 g1
        replace B1 := cell_gr B1 g1
        replace B2 := cell_gr B2 g1
        replace B3 := cell_gr B3 g1
        go_wp2_with fail
        refine (ContainsFuncTr_calls _ N.trans 27 _ _ _ eg (hT.gr (by (repeat (first | exact Gr.refl _ | assumption | apply Gr.alloc | apply Gr.drew | apply Gr.drewN | refine Gr.trans ?_ (by assumption))))) (ShapeWrong1_answers _ _ _ i o _ B2 B3 HL0.out)).mono ?_
        rw [he]; rintro _ w2 ⟨rfl, g2⟩
        go_wp2_with fail
        go_ret
        exact ⟨ret_i64 HC.out.symm, by (repeat (first | exact Gr.refl _ | assumption | apply Gr.alloc | apply Gr.drew | apply Gr.drewN | refine Gr.trans ?_ (by assumption)))⟩
      case false =>
        have hS := netSmall_ok hok
        have hok' := netOk_turn hok
        obtain ⟨L, hL⟩ : ∃ L, (walkN N i).length = L := ⟨_, rfl⟩
        obtain ⟨R, hR⟩ : ∃ R, (walkN (turnN N) o).length = R := ⟨_, rfl⟩
        have hC := shapeC_walk hok hr he
        have hLle := walk_le hok hi'
        have ho2 : o < (turnN N).places.toNat := by rw [turnN_places]; exact ho'
        have hRle := walk_le hok' ho2
        rw [hL, hR] at hC
        rw [hL] at hLle
        rw [hR] at hRle
        have hsz : sizeN (turnN N) = sizeN N := by unfold sizeN; rw [turnN_len, turnN_places]
        rw [hsz] at hRle
        have hsz0 : (sizeN N : Int) = N.places + (N.trans.length : Int) := by unfold sizeN; omega
        have hn24 := netOk_n24 hok
        have HL := Lib.hid hL
        have HR := Lib.hid hR
        clear hL hR hr hsz
        by_cases hcL : L < sizeN N
        · have HC := Lib.hid (show shapeC N i o = 1 by rw [hC, if_pos (.inl hcL)])
          have q1 : decide ((L : Int) < N.places + (N.trans.length : Int)) = true := by rw [decide_eq_true_eq]; omega
          clear hC
          obtain ⟨B0, B1, B2, B3, G0⟩ := boxes3 w #[.int .i64 N.places, .slice a N.trans.length cap] (.int .i64 i) (.int .i64 o) 28 3 3 _ _ rfl rfl _ rfl
          go_enter Try.func10, Try.ntmps10
          go_wp2_with fail
          refine (Wrong_calls _ N _ (hN.gr (by (repeat (first | exact Gr.refl _ | assumption | apply Gr.alloc | apply Gr.drew | apply Gr.drewN | refine Gr.trans ?_ (by assumption)))))).mono ?_
          rw [e1]; rintro _ w1 ⟨rfl, g1⟩
          replace B0 := cell_gr B0 g1
          replace B1 := cell_gr B1 g1
          replace B2 := cell_gr B2 g1
          replace B3 := cell_gr B3 g1
          go_wp2_with fail
          refine (ContainsFuncTr_calls _ N.trans 27 _ _ _ eg (hT.gr (by (repeat (first | exact Gr.refl _ | assumption | apply Gr.alloc | apply Gr.drew | apply Gr.drewN | refine Gr.trans ?_ (by assumption))))) (ShapeWrong1_answers _ _ _ i o _ B2 B3 HL0.out)).mono ?_
          rw [he]; rintro _ w2 ⟨rfl, g2⟩
          replace B0 := cell_gr B0 g2
          replace B1 := cell_gr B1 g2
          replace B2 := cell_gr B2 g2
          replace B3 := cell_gr B3 g2
          have G2 : Gr w w2 := by (repeat (first | exact Gr.refl _ | assumption | apply Gr.alloc | apply Gr.drew | apply Gr.drewN | refine Gr.trans ?_ (by assumption)))
          have K0 := hN.gr G2
          clear G0 g1 g2
          go_wp2_with fail
          refine cut14 (S := fun w' => w'.cell? ⟨w.heap.size, 0, none⟩ = some (.int .i64 N.places) ∧ w'.cell? ⟨w.heap.size, 1, none⟩ = some (.slice a N.trans.length cap) ∧ w'.cell? ⟨w.heap.size + 1, 0, none⟩ = some (.int .i64 (i : Int)) ∧ w'.cell? ⟨w.heap.size + 1 + 1, 0, none⟩ = some (.int .i64 (o : Int))) (by kernel_rfl) (by kernel_rfl) (by exact ⟨cell_gr B0 (by (repeat (first | exact Gr.refl _ | assumption | apply Gr.alloc | apply Gr.drew | apply Gr.drewN | refine Gr.trans ?_ (by assumption)))), cell_gr B1 (by (repeat (first | exact Gr.refl _ | assumption | apply Gr.alloc | apply Gr.drew | apply Gr.drewN | refine Gr.trans ?_ (by assumption)))), cell_gr B2 (by (repeat (first | exact Gr.refl _ | assumption | apply Gr.alloc | apply Gr.drew | apply Gr.drewN | refine Gr.trans ?_ (by assumption)))), cell_gr B3 (by (repeat (first | exact Gr.refl _ | assumption | apply Gr.alloc | apply Gr.drew | apply Gr.drewN | refine Gr.trans ?_ (by assumption))))⟩) (fun hHeld => ?_)
          (refine hold0 (v := ?_) (by kernel_rfl) (by kernel_rfl) (by kernel_rfl) (fun _ _ _ h => h) (by rfl) (fun w' hSw => ?_) (by assumption) ?_; rotate_left 1; · ((try dsimp only at hSw); (try go_simp); (try (with_reducible rfl))); (try simp only [Act.put, List.setIfInBounds_toArray, List.set_cons_zero, List.set_cons_succ]))
          (refine hold1 (v := ?_) (by kernel_rfl) (by kernel_rfl) (by kernel_rfl) (fun _ _ _ h => h) (by rfl) (fun w' hSw => ?_) (by assumption) ?_; rotate_left 1; · ((try dsimp only at hSw); (try go_simp); (try (with_reducible rfl))); (try simp only [Act.put, List.setIfInBounds_toArray, List.set_cons_zero, List.set_cons_succ]))
          (refine hold4 (v := ?_) (by kernel_rfl) (by kernel_rfl) (by kernel_rfl) (fun _ _ _ h => h) (by rfl) (fun w' hSw => ?_) (by assumption) ?_; rotate_left 1; · ((try dsimp only at hSw); (try go_simp); (try (with_reducible rfl))); (try simp only [Act.put, List.setIfInBounds_toArray, List.set_cons_zero, List.set_cons_succ]))
          refine next2 (by kernel_rfl) (fun K hK => ?_)
          go_simp
          refine (walk_calls _ N i _ (K0.gr (by (repeat (first | exact Gr.refl _ | assumption | apply Gr.alloc | apply Gr.drew | apply Gr.drewN | refine Gr.trans ?_ (by assumption))))) hok hi').mono ?_
          rintro _ w2 ⟨b2, rfl, m2, g2⟩
          have l2 := (m2.gr ((Gr.refl _).drew)).len_run Try.underlying69 3
          have l2' := m2.len_run Try.underlying69 3
          rw [List.length_map, HL.out] at l2 l2'
          (refine hK.out _ _ ?_ (fun hHeld => ?_); · (exact ⟨cell_gr B0 (by (repeat (first | exact Gr.refl _ | assumption | apply Gr.alloc | apply Gr.drew | apply Gr.drewN | refine Gr.trans ?_ (by assumption)))), cell_gr B1 (by (repeat (first | exact Gr.refl _ | assumption | apply Gr.alloc | apply Gr.drew | apply Gr.drewN | refine Gr.trans ?_ (by assumption)))), cell_gr B2 (by (repeat (first | exact Gr.refl _ | assumption | apply Gr.alloc | apply Gr.drew | apply Gr.drewN | refine Gr.trans ?_ (by assumption)))), cell_gr B3 (by (repeat (first | exact Gr.refl _ | assumption | apply Gr.alloc | apply Gr.drew | apply Gr.drewN | refine Gr.trans ?_ (by assumption))))⟩))
          clear hK K
          try simp only [Act.put, List.setIfInBounds_toArray, List.set_cons_zero, List.set_cons_succ]
          refine next3 (by kernel_rfl) (fun K hK => ?_)
          go_simp
          (refine hK.out _ _ ?_ (fun hHeld => ?_); · (exact ⟨cell_gr B0 (by (repeat (first | exact Gr.refl _ | assumption | apply Gr.alloc | apply Gr.drew | apply Gr.drewN | refine Gr.trans ?_ (by assumption)))), cell_gr B1 (by (repeat (first | exact Gr.refl _ | assumption | apply Gr.alloc | apply Gr.drew | apply Gr.drewN | refine Gr.trans ?_ (by assumption)))), cell_gr B2 (by (repeat (first | exact Gr.refl _ | assumption | apply Gr.alloc | apply Gr.drew | apply Gr.drewN | refine Gr.trans ?_ (by assumption)))), cell_gr B3 (by (repeat (first | exact Gr.refl _ | assumption | apply Gr.alloc | apply Gr.drew | apply Gr.drewN | refine Gr.trans ?_ (by assumption))))⟩))
          clear hK K
          try simp only [Act.put, List.setIfInBounds_toArray, List.set_cons_zero, List.set_cons_succ]
          (refine hold5 (v := ?_) (by kernel_rfl) (by kernel_rfl) (by kernel_rfl) (fun _ _ _ h => h) (by rfl) (fun w' hSw => ?_) (by assumption) ?_; rotate_left 1; · ((try dsimp only at hSw); (try go_simp); (try (with_reducible rfl))); (try simp only [Act.put, List.setIfInBounds_toArray, List.set_cons_zero, List.set_cons_succ]))
          (refine hold6 (v := ?_) (by kernel_rfl) (by kernel_rfl) (by kernel_rfl) (fun _ _ _ h => h) (by rfl) (fun w' hSw => ?_) (by assumption) ?_; rotate_left 1; · ((try dsimp only at hSw); (try go_simp); (try (with_reducible rfl))); (try simp only [Act.put, List.setIfInBounds_toArray, List.set_cons_zero, List.set_cons_succ]))
          (refine skip7 (by kernel_rfl) (by kernel_rfl) (by kernel_rfl) (fun _ _ _ h => h) (by rfl) (by assumption) ?_; (try simp only [Act.put, List.setIfInBounds_toArray, List.set_cons_zero, List.set_cons_succ]))
          (refine skip8 (by kernel_rfl) (by kernel_rfl) (by kernel_rfl) (fun _ _ _ h => h) (by rfl) (by assumption) ?_; (try simp only [Act.put, List.setIfInBounds_toArray, List.set_cons_zero, List.set_cons_succ]))
          (refine skip9 (by kernel_rfl) (by kernel_rfl) (by kernel_rfl) (fun _ _ _ h => h) (by rfl) (by assumption) ?_; (try simp only [Act.put, List.setIfInBounds_toArray, List.set_cons_zero, List.set_cons_succ]))
          (refine skip10 (by kernel_rfl) (by kernel_rfl) (by kernel_rfl) (fun _ _ _ h => h) (by rfl) (by assumption) ?_; (try simp only [Act.put, List.setIfInBounds_toArray, List.set_cons_zero, List.set_cons_succ]))
          (refine skip11 (by kernel_rfl) (by kernel_rfl) (by kernel_rfl) (fun _ _ _ h => h) (by rfl) (by assumption) ?_; (try simp only [Act.put, List.setIfInBounds_toArray, List.set_cons_zero, List.set_cons_succ]))
          (refine skip12 (by kernel_rfl) (by kernel_rfl) (by kernel_rfl) (fun _ _ _ h => h) (by rfl) (by assumption) ?_; (try simp only [Act.put, List.setIfInBounds_toArray, List.set_cons_zero, List.set_cons_succ]))
          (refine skip13 (by kernel_rfl) (by kernel_rfl) (by kernel_rfl) (fun _ _ _ h => h) (by rfl) (by assumption) ?_; (try simp only [Act.put, List.setIfInBounds_toArray, List.set_cons_zero, List.set_cons_succ]))
          refine ends14 (by kernel_rfl) (fun K hK => ?_)
          go_simp
          refine hK.out _ _ ?_
          go_wp2_with fail
          go_ret
          exact ⟨ret_i64 HC.out.symm, by (repeat (first | exact Gr.refl _ | assumption | apply Gr.alloc | apply Gr.drew | apply Gr.drewN | refine Gr.trans ?_ (by assumption)))⟩
        · have q1 : decide ((L : Int) < N.places + (N.trans.length : Int)) = false := by rw [decide_eq_false_iff_not]; omega
          by_cases hcR : R < sizeN N
          · have HC := Lib.hid (show shapeC N i o = 1 by rw [hC, if_pos (.inr hcR)])
            have q2 : decide ((R : Int) < N.places + (N.trans.length : Int)) = true := by rw [decide_eq_true_eq]; omega
            clear hC
            obtain ⟨B0, B1, B2, B3, G0⟩ := boxes3 w #[.int .i64 N.places, .slice a N.trans.length cap] (.int .i64 i) (.int .i64 o) 28 3 3 _ _ rfl rfl _ rfl
            go_enter Try.func10, Try.ntmps10
            go_wp2_with fail
            refine (Wrong_calls _ N _ (hN.gr (by (repeat (first | exact Gr.refl _ | assumption | apply Gr.alloc | apply Gr.drew | apply Gr.drewN | refine Gr.trans ?_ (by assumption)))))).mono ?_
            rw [e1]; rintro _ w1 ⟨rfl, g1⟩
            replace B0 := cell_gr B0 g1
            replace B1 := cell_gr B1 g1
            replace B2 := cell_gr B2 g1
            replace B3 := cell_gr B3 g1
            go_wp2_with fail
            refine (ContainsFuncTr_calls _ N.trans 27 _ _ _ eg (hT.gr (by (repeat (first | exact Gr.refl _ | assumption | apply Gr.alloc | apply Gr.drew | apply Gr.drewN | refine Gr.trans ?_ (by assumption))))) (ShapeWrong1_answers _ _ _ i o _ B2 B3 HL0.out)).mono ?_
            rw [he]; rintro _ w2 ⟨rfl, g2⟩
            replace B0 := cell_gr B0 g2
            replace B1 := cell_gr B1 g2
            replace B2 := cell_gr B2 g2
            replace B3 := cell_gr B3 g2
            have G2 : Gr w w2 := by (repeat (first | exact Gr.refl _ | assumption | apply Gr.alloc | apply Gr.drew | apply Gr.drewN | refine Gr.trans ?_ (by assumption)))
            have K0 := hN.gr G2
            clear G0 g1 g2
            go_wp2_with fail
            refine cut14 (S := fun w' => w'.cell? ⟨w.heap.size, 0, none⟩ = some (.int .i64 N.places) ∧ w'.cell? ⟨w.heap.size, 1, none⟩ = some (.slice a N.trans.length cap) ∧ w'.cell? ⟨w.heap.size + 1, 0, none⟩ = some (.int .i64 (i : Int)) ∧ w'.cell? ⟨w.heap.size + 1 + 1, 0, none⟩ = some (.int .i64 (o : Int))) (by kernel_rfl) (by kernel_rfl) (by exact ⟨cell_gr B0 (by (repeat (first | exact Gr.refl _ | assumption | apply Gr.alloc | apply Gr.drew | apply Gr.drewN | refine Gr.trans ?_ (by assumption)))), cell_gr B1 (by (repeat (first | exact Gr.refl _ | assumption | apply Gr.alloc | apply Gr.drew | apply Gr.drewN | refine Gr.trans ?_ (by assumption)))), cell_gr B2 (by (repeat (first | exact Gr.refl _ | assumption | apply Gr.alloc | apply Gr.drew | apply Gr.drewN | refine Gr.trans ?_ (by assumption)))), cell_gr B3 (by (repeat (first | exact Gr.refl _ | assumption | apply Gr.alloc | apply Gr.drew | apply Gr.drewN | refine Gr.trans ?_ (by assumption))))⟩) (fun hHeld => ?_)
            (refine hold0 (v := ?_) (by kernel_rfl) (by kernel_rfl) (by kernel_rfl) (fun _ _ _ h => h) (by rfl) (fun w' hSw => ?_) (by assumption) ?_; rotate_left 1; · ((try dsimp only at hSw); (try go_simp); (try (with_reducible rfl))); (try simp only [Act.put, List.setIfInBounds_toArray, List.set_cons_zero, List.set_cons_succ]))
            (refine hold1 (v := ?_) (by kernel_rfl) (by kernel_rfl) (by kernel_rfl) (fun _ _ _ h => h) (by rfl) (fun w' hSw => ?_) (by assumption) ?_; rotate_left 1; · ((try dsimp only at hSw); (try go_simp); (try (with_reducible rfl))); (try simp only [Act.put, List.setIfInBounds_toArray, List.set_cons_zero, List.set_cons_succ]))
            (refine hold4 (v := ?_) (by kernel_rfl) (by kernel_rfl) (by kernel_rfl) (fun _ _ _ h => h) (by rfl) (fun w' hSw => ?_) (by assumption) ?_; rotate_left 1; · ((try dsimp only at hSw); (try go_simp); (try (with_reducible rfl))); (try simp only [Act.put, List.setIfInBounds_toArray, List.set_cons_zero, List.set_cons_succ]))
            refine next2 (by kernel_rfl) (fun K hK => ?_)
            go_simp
            refine (walk_calls _ N i _ (K0.gr (by (repeat (first | exact Gr.refl _ | assumption | apply Gr.alloc | apply Gr.drew | apply Gr.drewN | refine Gr.trans ?_ (by assumption))))) hok hi').mono ?_
            rintro _ w2 ⟨b2, rfl, m2, g2⟩
            have l2 := (m2.gr ((Gr.refl _).drew)).len_run Try.underlying69 3
            have l2' := m2.len_run Try.underlying69 3
            rw [List.length_map, HL.out] at l2 l2'
            (refine hK.out _ _ ?_ (fun hHeld => ?_); · (exact ⟨cell_gr B0 (by (repeat (first | exact Gr.refl _ | assumption | apply Gr.alloc | apply Gr.drew | apply Gr.drewN | refine Gr.trans ?_ (by assumption)))), cell_gr B1 (by (repeat (first | exact Gr.refl _ | assumption | apply Gr.alloc | apply Gr.drew | apply Gr.drewN | refine Gr.trans ?_ (by assumption)))), cell_gr B2 (by (repeat (first | exact Gr.refl _ | assumption | apply Gr.alloc | apply Gr.drew | apply Gr.drewN | refine Gr.trans ?_ (by assumption)))), cell_gr B3 (by (repeat (first | exact Gr.refl _ | assumption | apply Gr.alloc | apply Gr.drew | apply Gr.drewN | refine Gr.trans ?_ (by assumption))))⟩))
            clear hK K
            try simp only [Act.put, List.setIfInBounds_toArray, List.set_cons_zero, List.set_cons_succ]
            refine next3 (by kernel_rfl) (fun K hK => ?_)
            go_simp
            (refine hK.out _ _ ?_ (fun hHeld => ?_); · (exact ⟨cell_gr B0 (by (repeat (first | exact Gr.refl _ | assumption | apply Gr.alloc | apply Gr.drew | apply Gr.drewN | refine Gr.trans ?_ (by assumption)))), cell_gr B1 (by (repeat (first | exact Gr.refl _ | assumption | apply Gr.alloc | apply Gr.drew | apply Gr.drewN | refine Gr.trans ?_ (by assumption)))), cell_gr B2 (by (repeat (first | exact Gr.refl _ | assumption | apply Gr.alloc | apply Gr.drew | apply Gr.drewN | refine Gr.trans ?_ (by assumption)))), cell_gr B3 (by (repeat (first | exact Gr.refl _ | assumption | apply Gr.alloc | apply Gr.drew | apply Gr.drewN | refine Gr.trans ?_ (by assumption))))⟩))
            clear hK K
            try simp only [Act.put, List.setIfInBounds_toArray, List.set_cons_zero, List.set_cons_succ]
            (refine hold5 (v := ?_) (by kernel_rfl) (by kernel_rfl) (by kernel_rfl) (fun _ _ _ h => h) (by rfl) (fun w' hSw => ?_) (by assumption) ?_; rotate_left 1; · ((try dsimp only at hSw); (try go_simp); (try (with_reducible rfl))); (try simp only [Act.put, List.setIfInBounds_toArray, List.set_cons_zero, List.set_cons_succ]))
            (refine hold6 (v := ?_) (by kernel_rfl) (by kernel_rfl) (by kernel_rfl) (fun _ _ _ h => h) (by rfl) (fun w' hSw => ?_) (by assumption) ?_; rotate_left 1; · ((try dsimp only at hSw); (try go_simp); (try (with_reducible rfl))); (try simp only [Act.put, List.setIfInBounds_toArray, List.set_cons_zero, List.set_cons_succ]))
            (refine hold7 (v := ?_) (by kernel_rfl) (by kernel_rfl) (by kernel_rfl) (fun _ _ _ h => h) (by rfl) (fun w' hSw => ?_) (by assumption) ?_; rotate_left 1; · ((try dsimp only at hSw); (try go_simp); (try (with_reducible rfl))); (try simp only [Act.put, List.setIfInBounds_toArray, List.set_cons_zero, List.set_cons_succ]))
            (refine hold9 (v := ?_) (by kernel_rfl) (by kernel_rfl) (by kernel_rfl) (fun _ _ _ h => h) (by rfl) (fun w' hSw => ?_) (by assumption) ?_; rotate_left 1; · ((try dsimp only at hSw); (try go_simp); (try (with_reducible rfl))); (try simp only [Act.put, List.setIfInBounds_toArray, List.set_cons_zero, List.set_cons_succ]))
            (refine hold12 (v := ?_) (by kernel_rfl) (by kernel_rfl) (by kernel_rfl) (fun _ _ _ h => h) (by rfl) (fun w' hSw => ?_) (by assumption) ?_; rotate_left 1; · ((try dsimp only at hSw); (try go_simp); (try (with_reducible rfl))); (try simp only [Act.put, List.setIfInBounds_toArray, List.set_cons_zero, List.set_cons_succ]))
            refine next8 (by kernel_rfl) (fun K hK => ?_)
            go_simp
            refine (Turned_calls _ N _ (K0.gr (by (repeat (first | exact Gr.refl _ | assumption | apply Gr.alloc | apply Gr.drew | apply Gr.drewN | refine Gr.trans ?_ (by assumption))))) hS).mono ?_
            rintro _ w3 ⟨v3, rfl, n3, g3⟩
            (refine hK.out _ _ ?_ (fun hHeld => ?_); · (exact ⟨cell_gr B0 (by (repeat (first | exact Gr.refl _ | assumption | apply Gr.alloc | apply Gr.drew | apply Gr.drewN | refine Gr.trans ?_ (by assumption)))), cell_gr B1 (by (repeat (first | exact Gr.refl _ | assumption | apply Gr.alloc | apply Gr.drew | apply Gr.drewN | refine Gr.trans ?_ (by assumption)))), cell_gr B2 (by (repeat (first | exact Gr.refl _ | assumption | apply Gr.alloc | apply Gr.drew | apply Gr.drewN | refine Gr.trans ?_ (by assumption)))), cell_gr B3 (by (repeat (first | exact Gr.refl _ | assumption | apply Gr.alloc | apply Gr.drew | apply Gr.drewN | refine Gr.trans ?_ (by assumption))))⟩))
            clear hK K
            try simp only [Act.put, List.setIfInBounds_toArray, List.set_cons_zero, List.set_cons_succ]
            refine next10 (by kernel_rfl) (fun K hK => ?_)
            go_simp
            refine (walk_calls _ (turnN N) o _ (n3.gr (by (repeat (first | exact Gr.refl _ | assumption | apply Gr.alloc | apply Gr.drew | apply Gr.drewN | refine Gr.trans ?_ (by assumption))))) hok' ho2).mono ?_
            rintro _ w4 ⟨b4, rfl, m4, g4⟩
            have l4 := (m4.gr ((Gr.refl _).drew)).len_run Try.underlying69 3
            have l4' := m4.len_run Try.underlying69 3
            rw [List.length_map, HR.out] at l4 l4'
            (refine hK.out _ _ ?_ (fun hHeld => ?_); · (exact ⟨cell_gr B0 (by (repeat (first | exact Gr.refl _ | assumption | apply Gr.alloc | apply Gr.drew | apply Gr.drewN | refine Gr.trans ?_ (by assumption)))), cell_gr B1 (by (repeat (first | exact Gr.refl _ | assumption | apply Gr.alloc | apply Gr.drew | apply Gr.drewN | refine Gr.trans ?_ (by assumption)))), cell_gr B2 (by (repeat (first | exact Gr.refl _ | assumption | apply Gr.alloc | apply Gr.drew | apply Gr.drewN | refine Gr.trans ?_ (by assumption)))), cell_gr B3 (by (repeat (first | exact Gr.refl _ | assumption | apply Gr.alloc | apply Gr.drew | apply Gr.drewN | refine Gr.trans ?_ (by assumption))))⟩))
            clear hK K
            try simp only [Act.put, List.setIfInBounds_toArray, List.set_cons_zero, List.set_cons_succ]
            refine next11 (by kernel_rfl) (fun K hK => ?_)
            go_simp
            (refine hK.out _ _ ?_ (fun hHeld => ?_); · (exact ⟨cell_gr B0 (by (repeat (first | exact Gr.refl _ | assumption | apply Gr.alloc | apply Gr.drew | apply Gr.drewN | refine Gr.trans ?_ (by assumption)))), cell_gr B1 (by (repeat (first | exact Gr.refl _ | assumption | apply Gr.alloc | apply Gr.drew | apply Gr.drewN | refine Gr.trans ?_ (by assumption)))), cell_gr B2 (by (repeat (first | exact Gr.refl _ | assumption | apply Gr.alloc | apply Gr.drew | apply Gr.drewN | refine Gr.trans ?_ (by assumption)))), cell_gr B3 (by (repeat (first | exact Gr.refl _ | assumption | apply Gr.alloc | apply Gr.drew | apply Gr.drewN | refine Gr.trans ?_ (by assumption))))⟩))
            clear hK K
            try simp only [Act.put, List.setIfInBounds_toArray, List.set_cons_zero, List.set_cons_succ]
            (refine hold13 (v := ?_) (by kernel_rfl) (by kernel_rfl) (by kernel_rfl) (fun _ _ _ h => h) (by rfl) (fun w' hSw => ?_) (by assumption) ?_; rotate_left 1; · ((try dsimp only at hSw); (try go_simp); (try (with_reducible rfl))); (try simp only [Act.put, List.setIfInBounds_toArray, List.set_cons_zero, List.set_cons_succ]))
            refine ends14 (by kernel_rfl) (fun K hK => ?_)
            go_simp
            refine hK.out _ _ ?_
            go_wp2_with fail
            go_ret
            exact ⟨ret_i64 HC.out.symm, by (repeat (first | exact Gr.refl _ | assumption | apply Gr.alloc | apply Gr.drew | apply Gr.drewN | refine Gr.trans ?_ (by assumption)))⟩
          · have HC := Lib.hid (show shapeC N i o = 0 by rw [hC, if_neg (fun h => h.elim hcL hcR)])
            have q2 : decide ((R : Int) < N.places + (N.trans.length : Int)) = false := by rw [decide_eq_false_iff_not]; omega
            clear hC
            obtain ⟨B0, B1, B2, B3, G0⟩ := boxes3 w #[.int .i64 N.places, .slice a N.trans.length cap] (.int .i64 i) (.int .i64 o) 28 3 3 _ _ rfl rfl _ rfl
            go_enter Try.func10, Try.ntmps10
            go_wp2_with fail
            refine (Wrong_calls _ N _ (hN.gr (by (repeat (first | exact Gr.refl _ | assumption | apply Gr.alloc | apply Gr.drew | apply Gr.drewN | refine Gr.trans ?_ (by assumption)))))).mono ?_
            rw [e1]; rintro _ w1 ⟨rfl, g1⟩
            replace B0 := cell_gr B0 g1
            replace B1 := cell_gr B1 g1
            replace B2 := cell_gr B2 g1
            replace B3 := cell_gr B3 g1
            go_wp2_with fail
            refine (ContainsFuncTr_calls _ N.trans 27 _ _ _ eg (hT.gr (by (repeat (first | exact Gr.refl _ | assumption | apply Gr.alloc | apply Gr.drew | apply Gr.drewN | refine Gr.trans ?_ (by assumption))))) (ShapeWrong1_answers _ _ _ i o _ B2 B3 HL0.out)).mono ?_
            rw [he]; rintro _ w2 ⟨rfl, g2⟩
            replace B0 := cell_gr B0 g2
            replace B1 := cell_gr B1 g2
            replace B2 := cell_gr B2 g2
            replace B3 := cell_gr B3 g2
            have G2 : Gr w w2 := by (repeat (first | exact Gr.refl _ | assumption | apply Gr.alloc | apply Gr.drew | apply Gr.drewN | refine Gr.trans ?_ (by assumption)))
            have K0 := hN.gr G2
            clear G0 g1 g2
            go_wp2_with fail
            refine cut14 (S := fun w' => w'.cell? ⟨w.heap.size, 0, none⟩ = some (.int .i64 N.places) ∧ w'.cell? ⟨w.heap.size, 1, none⟩ = some (.slice a N.trans.length cap) ∧ w'.cell? ⟨w.heap.size + 1, 0, none⟩ = some (.int .i64 (i : Int)) ∧ w'.cell? ⟨w.heap.size + 1 + 1, 0, none⟩ = some (.int .i64 (o : Int))) (by kernel_rfl) (by kernel_rfl) (by exact ⟨cell_gr B0 (by (repeat (first | exact Gr.refl _ | assumption | apply Gr.alloc | apply Gr.drew | apply Gr.drewN | refine Gr.trans ?_ (by assumption)))), cell_gr B1 (by (repeat (first | exact Gr.refl _ | assumption | apply Gr.alloc | apply Gr.drew | apply Gr.drewN | refine Gr.trans ?_ (by assumption)))), cell_gr B2 (by (repeat (first | exact Gr.refl _ | assumption | apply Gr.alloc | apply Gr.drew | apply Gr.drewN | refine Gr.trans ?_ (by assumption)))), cell_gr B3 (by (repeat (first | exact Gr.refl _ | assumption | apply Gr.alloc | apply Gr.drew | apply Gr.drewN | refine Gr.trans ?_ (by assumption))))⟩) (fun hHeld => ?_)
            (refine hold0 (v := ?_) (by kernel_rfl) (by kernel_rfl) (by kernel_rfl) (fun _ _ _ h => h) (by rfl) (fun w' hSw => ?_) (by assumption) ?_; rotate_left 1; · ((try dsimp only at hSw); (try go_simp); (try (with_reducible rfl))); (try simp only [Act.put, List.setIfInBounds_toArray, List.set_cons_zero, List.set_cons_succ]))
            (refine hold1 (v := ?_) (by kernel_rfl) (by kernel_rfl) (by kernel_rfl) (fun _ _ _ h => h) (by rfl) (fun w' hSw => ?_) (by assumption) ?_; rotate_left 1; · ((try dsimp only at hSw); (try go_simp); (try (with_reducible rfl))); (try simp only [Act.put, List.setIfInBounds_toArray, List.set_cons_zero, List.set_cons_succ]))
            (refine hold4 (v := ?_) (by kernel_rfl) (by kernel_rfl) (by kernel_rfl) (fun _ _ _ h => h) (by rfl) (fun w' hSw => ?_) (by assumption) ?_; rotate_left 1; · ((try dsimp only at hSw); (try go_simp); (try (with_reducible rfl))); (try simp only [Act.put, List.setIfInBounds_toArray, List.set_cons_zero, List.set_cons_succ]))
            refine next2 (by kernel_rfl) (fun K hK => ?_)
            go_simp
            refine (walk_calls _ N i _ (K0.gr (by (repeat (first | exact Gr.refl _ | assumption | apply Gr.alloc | apply Gr.drew | apply Gr.drewN | refine Gr.trans ?_ (by assumption))))) hok hi').mono ?_
            rintro _ w2 ⟨b2, rfl, m2, g2⟩
            have l2 := (m2.gr ((Gr.refl _).drew)).len_run Try.underlying69 3
            have l2' := m2.len_run Try.underlying69 3
            rw [List.length_map, HL.out] at l2 l2'
            (refine hK.out _ _ ?_ (fun hHeld => ?_); · (exact ⟨cell_gr B0 (by (repeat (first | exact Gr.refl _ | assumption | apply Gr.alloc | apply Gr.drew | apply Gr.drewN | refine Gr.trans ?_ (by assumption)))), cell_gr B1 (by (repeat (first | exact Gr.refl _ | assumption | apply Gr.alloc | apply Gr.drew | apply Gr.drewN | refine Gr.trans ?_ (by assumption)))), cell_gr B2 (by (repeat (first | exact Gr.refl _ | assumption | apply Gr.alloc | apply Gr.drew | apply Gr.drewN | refine Gr.trans ?_ (by assumption)))), cell_gr B3 (by (repeat (first | exact Gr.refl _ | assumption | apply Gr.alloc | apply Gr.drew | apply Gr.drewN | refine Gr.trans ?_ (by assumption))))⟩))
            clear hK K
            try simp only [Act.put, List.setIfInBounds_toArray, List.set_cons_zero, List.set_cons_succ]
            refine next3 (by kernel_rfl) (fun K hK => ?_)
            go_simp
            (refine hK.out _ _ ?_ (fun hHeld => ?_); · (exact ⟨cell_gr B0 (by (repeat (first | exact Gr.refl _ | assumption | apply Gr.alloc | apply Gr.drew | apply Gr.drewN | refine Gr.trans ?_ (by assumption)))), cell_gr B1 (by (repeat (first | exact Gr.refl _ | assumption | apply Gr.alloc | apply Gr.drew | apply Gr.drewN | refine Gr.trans ?_ (by assumption)))), cell_gr B2 (by (repeat (first | exact Gr.refl _ | assumption | apply Gr.alloc | apply Gr.drew | apply Gr.drewN | refine Gr.trans ?_ (by assumption)))), cell_gr B3 (by (repeat (first | exact Gr.refl _ | assumption | apply Gr.alloc | apply Gr.drew | apply Gr.drewN | refine Gr.trans ?_ (by assumption))))⟩))
            clear hK K
            try simp only [Act.put, List.setIfInBounds_toArray, List.set_cons_zero, List.set_cons_succ]
            (refine hold5 (v := ?_) (by kernel_rfl) (by kernel_rfl) (by kernel_rfl) (fun _ _ _ h => h) (by rfl) (fun w' hSw => ?_) (by assumption) ?_; rotate_left 1; · ((try dsimp only at hSw); (try go_simp); (try (with_reducible rfl))); (try simp only [Act.put, List.setIfInBounds_toArray, List.set_cons_zero, List.set_cons_succ]))
            (refine hold6 (v := ?_) (by kernel_rfl) (by kernel_rfl) (by kernel_rfl) (fun _ _ _ h => h) (by rfl) (fun w' hSw => ?_) (by assumption) ?_; rotate_left 1; · ((try dsimp only at hSw); (try go_simp); (try (with_reducible rfl))); (try simp only [Act.put, List.setIfInBounds_toArray, List.set_cons_zero, List.set_cons_succ]))
            (refine hold7 (v := ?_) (by kernel_rfl) (by kernel_rfl) (by kernel_rfl) (fun _ _ _ h => h) (by rfl) (fun w' hSw => ?_) (by assumption) ?_; rotate_left 1; · ((try dsimp only at hSw); (try go_simp); (try (with_reducible rfl))); (try simp only [Act.put, List.setIfInBounds_toArray, List.set_cons_zero, List.set_cons_succ]))
            (refine hold9 (v := ?_) (by kernel_rfl) (by kernel_rfl) (by kernel_rfl) (fun _ _ _ h => h) (by rfl) (fun w' hSw => ?_) (by assumption) ?_; rotate_left 1; · ((try dsimp only at hSw); (try go_simp); (try (with_reducible rfl))); (try simp only [Act.put, List.setIfInBounds_toArray, List.set_cons_zero, List.set_cons_succ]))
            (refine hold12 (v := ?_) (by kernel_rfl) (by kernel_rfl) (by kernel_rfl) (fun _ _ _ h => h) (by rfl) (fun w' hSw => ?_) (by assumption) ?_; rotate_left 1; · ((try dsimp only at hSw); (try go_simp); (try (with_reducible rfl))); (try simp only [Act.put, List.setIfInBounds_toArray, List.set_cons_zero, List.set_cons_succ]))
            refine next8 (by kernel_rfl) (fun K hK => ?_)
            go_simp
            refine (Turned_calls _ N _ (K0.gr (by (repeat (first | exact Gr.refl _ | assumption | apply Gr.alloc | apply Gr.drew | apply Gr.drewN | refine Gr.trans ?_ (by assumption))))) hS).mono ?_
            rintro _ w3 ⟨v3, rfl, n3, g3⟩
            (refine hK.out _ _ ?_ (fun hHeld => ?_); · (exact ⟨cell_gr B0 (by (repeat (first | exact Gr.refl _ | assumption | apply Gr.alloc | apply Gr.drew | apply Gr.drewN | refine Gr.trans ?_ (by assumption)))), cell_gr B1 (by (repeat (first | exact Gr.refl _ | assumption | apply Gr.alloc | apply Gr.drew | apply Gr.drewN | refine Gr.trans ?_ (by assumption)))), cell_gr B2 (by (repeat (first | exact Gr.refl _ | assumption | apply Gr.alloc | apply Gr.drew | apply Gr.drewN | refine Gr.trans ?_ (by assumption)))), cell_gr B3 (by (repeat (first | exact Gr.refl _ | assumption | apply Gr.alloc | apply Gr.drew | apply Gr.drewN | refine Gr.trans ?_ (by assumption))))⟩))
            clear hK K
            try simp only [Act.put, List.setIfInBounds_toArray, List.set_cons_zero, List.set_cons_succ]
            refine next10 (by kernel_rfl) (fun K hK => ?_)
            go_simp
            refine (walk_calls _ (turnN N) o _ (n3.gr (by (repeat (first | exact Gr.refl _ | assumption | apply Gr.alloc | apply Gr.drew | apply Gr.drewN | refine Gr.trans ?_ (by assumption))))) hok' ho2).mono ?_
            rintro _ w4 ⟨b4, rfl, m4, g4⟩
            have l4 := (m4.gr ((Gr.refl _).drew)).len_run Try.underlying69 3
            have l4' := m4.len_run Try.underlying69 3
            rw [List.length_map, HR.out] at l4 l4'
            (refine hK.out _ _ ?_ (fun hHeld => ?_); · (exact ⟨cell_gr B0 (by (repeat (first | exact Gr.refl _ | assumption | apply Gr.alloc | apply Gr.drew | apply Gr.drewN | refine Gr.trans ?_ (by assumption)))), cell_gr B1 (by (repeat (first | exact Gr.refl _ | assumption | apply Gr.alloc | apply Gr.drew | apply Gr.drewN | refine Gr.trans ?_ (by assumption)))), cell_gr B2 (by (repeat (first | exact Gr.refl _ | assumption | apply Gr.alloc | apply Gr.drew | apply Gr.drewN | refine Gr.trans ?_ (by assumption)))), cell_gr B3 (by (repeat (first | exact Gr.refl _ | assumption | apply Gr.alloc | apply Gr.drew | apply Gr.drewN | refine Gr.trans ?_ (by assumption))))⟩))
            clear hK K
            try simp only [Act.put, List.setIfInBounds_toArray, List.set_cons_zero, List.set_cons_succ]
            refine next11 (by kernel_rfl) (fun K hK => ?_)
            go_simp
            (refine hK.out _ _ ?_ (fun hHeld => ?_); · (exact ⟨cell_gr B0 (by (repeat (first | exact Gr.refl _ | assumption | apply Gr.alloc | apply Gr.drew | apply Gr.drewN | refine Gr.trans ?_ (by assumption)))), cell_gr B1 (by (repeat (first | exact Gr.refl _ | assumption | apply Gr.alloc | apply Gr.drew | apply Gr.drewN | refine Gr.trans ?_ (by assumption)))), cell_gr B2 (by (repeat (first | exact Gr.refl _ | assumption | apply Gr.alloc | apply Gr.drew | apply Gr.drewN | refine Gr.trans ?_ (by assumption)))), cell_gr B3 (by (repeat (first | exact Gr.refl _ | assumption | apply Gr.alloc | apply Gr.drew | apply Gr.drewN | refine Gr.trans ?_ (by assumption))))⟩))
            clear hK K
            try simp only [Act.put, List.setIfInBounds_toArray, List.set_cons_zero, List.set_cons_succ]
            (refine hold13 (v := ?_) (by kernel_rfl) (by kernel_rfl) (by kernel_rfl) (fun _ _ _ h => h) (by rfl) (fun w' hSw => ?_) (by assumption) ?_; rotate_left 1; · ((try dsimp only at hSw); (try go_simp); (try (with_reducible rfl))); (try simp only [Act.put, List.setIfInBounds_toArray, List.set_cons_zero, List.set_cons_succ]))
            refine ends14 (by kernel_rfl) (fun K hK => ?_)
            go_simp
            refine hK.out _ _ ?_
            go_wp2_with fail
            go_ret
            exact ⟨ret_i64 HC.out.symm, by (repeat (first | exact Gr.refl _ | assumption | apply Gr.alloc | apply Gr.drew | apply Gr.drewN | refine Gr.trans ?_ (by assumption)))⟩
end Go.Proofs.Ytjpapgbdhflgnaa

/- Contract of shape.Close. -/
namespace Go.Tok
open Go.RowKit
def closeT (N : NetD) (i o : Nat) : TranD := ⟨0, oneN N.places.toNat o, oneN N.places.toNat i⟩
def closeN (N : NetD) (i o : Nat) : NetD := ⟨N.places, N.trans ++ [closeT N i o]⟩
def closeF (N : NetD) (i o : Int) : NetD × Int := if shapeC N i o ≠ 0 then (⟨0, []⟩, shapeC N i o) else if N.trans.length = 24 then (⟨0, []⟩, 4) else (closeN N i.toNat o.toNat, 0)
theorem closeF_wrong {N : NetD} {i o : Int} (h : shapeC N i o ≠ 0) : closeF N i o = (⟨0, []⟩, shapeC N i o) := by unfold closeF; rw [if_pos h]
theorem closeF_full {N : NetD} {i o : Int} (h : shapeC N i o = 0) (h' : N.trans.length = 24) : closeF N i o = (⟨0, []⟩, 4) := by unfold closeF; rw [if_neg (by rw [h]; decide), if_pos h']
theorem closeF_ok {N : NetD} {i o : Nat} (h : shapeC N i o = 0) (h' : N.trans.length ≠ 24) : closeF N i o = (closeN N i o, 0) := by unfold closeF; rw [if_neg (by rw [h]; decide), if_neg h']; rfl
theorem shapeC_zero {N : NetD} {i o : Int} (h : shapeC N i o = 0) : netOkB N = true ∧ 0 ≤ i ∧ 0 ≤ o ∧ i < N.places ∧ o < N.places ∧ i ≠ o := by
  unfold shapeC at h
  split at h
  · next hok =>
    split at h
    · simp at h
    · exact ⟨hok, by omega⟩
  · simp at h
def RetNE (w : World) (r : NetD × Int) (e : Ending) (w' : World) : Prop := ∃ v', e = .returned (.tuple #[v', .int .i64 r.2]) ∧ NetR w' v' r.1 ∧ Gr w w'
theorem RetNE.mk {w w' : World} {r : NetD × Int} {N : NetD} {c : Int} {v : Value} (h : r = (N, c)) (hN : NetR w' v N) (g : Gr w w') : RetNE w r (.returned (.tuple #[v, .int .i64 c])) w' := by subst h; exact ⟨v, rfl, hN, g⟩
theorem zeroNet (w : World) : NetR w (.agg #[.int .i64 0, .slice none 0 0]) ⟨0, []⟩ := NetR.mk_ (N := ⟨0, []⟩) (TransR.nil w) (by simp [I64])
theorem on_row {e b3 e2 b2 OX : Nat} {S2 : Nat → Prop} {w2 w3 w' : World} {v2 v3 : Value} {ts : List TranD} {xs : List Int} (o2 : OwnR trK e2 b2 S2 w2 v2 ts) (o3 : OwnI e b3 w3 v3 xs) (h : w2.heap.size ≤ b3) (hOX : OX < w2.heap.size) (g : Gr w3 w') :
    On (fun b => b ≠ OX ∧ v2.ownBlock ≠ some b) (fun u => Ints u v3 xs) w' :=
  ((Ints.on_own o3).mono (fun b _ hb => by have := (o3.lt hb).1; exact ⟨by omega, fun e => by have := (o2.lt e).2; omega⟩)).gr g
theorem on_close {N : NetD} {i o : Nat} {S : Nat → Prop} {w : World} {v3 v4 : Value} (h3 : On S (fun u => Ints u v3 (oneN N.places.toNat o)) w) (h4 : On S (fun u => Ints u v4 (oneN N.places.toNat i)) w) :
    On S (fun u => trK.R u [.int .i64 0, v3, v4] (closeT N i o)) w := (h3.and h4).imp fun u h => ⟨v3, v4, rfl, by simp [closeT, I64], h.1, h.2⟩
end Go.Tok
namespace Go.Proofs.Ytjpapgbdhflgnaa
open Go.RowKit Go.Tok
set_option linter.unusedVariables false

end Go.Proofs.Ytjpapgbdhflgnaa

/- Plain laws of nets with a beginning and an end. -/
namespace Go.Tok
open Go.Proofs.Ytjpapgbdhflgnaa
set_option linter.unusedVariables false

theorem turnT_turnT (t : TranD) : turnT (turnT t) = t := by unfold turnT; rfl
theorem turnN_turnN (N : NetD) : turnN (turnN N) = N := by
  unfold turnN
  simp only [List.map_map]
  have : (turnT ∘ turnT) = id := by funext t; exact turnT_turnT t
  rw [this, List.map_id]
theorem netOk_turn_eq (N : NetD) : netOkB (turnN N) = netOkB N := by
  cases h : netOkB N
  · rw [Bool.eq_false_iff]
    intro h1
    have := netOk_turn h1
    rw [turnN_turnN, h] at this; cases this
  · exact netOk_turn h
theorem endB_turn (i o : Nat) (t : TranD) : endB o i (turnT t) = endB i o t := by
  unfold endB; rw [turnT_pre, turnT_post, Bool.or_comm]
theorem end_turn (N : NetD) (i o : Nat) : (turnN N).trans.any (endB o i) = N.trans.any (endB i o) := by
  have h : (turnN N).trans = N.trans.map turnT := by unfold turnN; rfl
  rw [h, List.any_map]
  congr 1
  funext t
  exact endB_turn i o t
theorem sizeN_turn (N : NetD) : sizeN (turnN N) = sizeN N := by unfold sizeN; rw [turnN_len, turnN_places]
theorem shape_turn (N : NetD) (i o : Int) : shapeC (turnN N) o i = shapeC N i o := by
  unfold shapeC
  rw [netOk_turn_eq, turnN_places, end_turn, sizeN_turn, turnN_turnN]
  split
  · have e1 : (o < 0 ∨ i < 0 ∨ N.places ≤ o ∨ N.places ≤ i ∨ o = i) ↔ (i < 0 ∨ o < 0 ∨ N.places ≤ i ∨ N.places ≤ o ∨ i = o) := by omega
    have e2 : ((walkN (turnN N) o.toNat).length < sizeN N ∨ (walkN N i.toNat).length < sizeN N) ↔ ((walkN N i.toNat).length < sizeN N ∨ (walkN (turnN N) o.toNat).length < sizeN N) := by omega
    simp only [e1, e2]
  · rfl

/-! ### what a right shape says -/
structure ShapeOk (N : NetD) (i o : Nat) : Prop where
  ok : netOkB N = true
  hi : i < N.places.toNat
  ho : o < N.places.toNat
  ne : i ≠ o
  post : ∀ k, k < N.trans.length → nth (N.tr k).post i ≤ 0
  pre : ∀ k, k < N.trans.length → nth (N.tr k).pre o ≤ 0
  full : sizeN N ≤ (walkN N i).length
  back : sizeN N ≤ (walkN (turnN N) o).length
theorem shape_ok {N : NetD} {i o : Int} (h : shapeC N i o = 0) : ∃ a b : Nat, i = a ∧ o = b ∧ ShapeOk N a b := by
  obtain ⟨hok, hi0, ho0, hip, hop, hio⟩ := shapeC_zero h
  obtain ⟨a, rfl⟩ := Int.eq_ofNat_of_zero_le hi0
  obtain ⟨b, rfl⟩ := Int.eq_ofNat_of_zero_le ho0
  refine ⟨a, b, rfl, rfl, ?_⟩
  unfold shapeC at h
  rw [if_pos hok, if_neg (by omega)] at h
  simp only [Int.toNat_natCast] at h
  split at h
  · simp at h
  · rename_i he
    split at h
    · simp at h
    · rename_i hw
      have he : N.trans.any (endB a b) = false := by simpa using he
      have hall : ∀ k, k < N.trans.length → endB a b (N.tr k) = false := fun k hk => by
        have := List.any_eq_false.1 he _ (NetD.tr_mem hk)
        simpa using this
      refine ⟨hok, by omega, by omega, by omega, fun k hk => ?_, fun k hk => ?_, by omega, by omega⟩
      · have := hall k hk; unfold endB at this; simp at this; omega
      · have := hall k hk; unfold endB at this; simp at this; omega
/-- each transition takes something -/
theorem ShapeOk.takes {N : NetD} {i o : Nat} (h : ShapeOk N i o) {k : Nat} (hk : k < N.trans.length) : ∃ p, p < N.places.toNat ∧ 0 < nth (N.tr k).pre p := by
  have g := walk_grown h.ok h.hi
  have hn : isNode N ⟨true, k⟩ := by unfold isNode; simpa using hk
  have hm : (⟨true, k⟩ : NodeD) ∈ walkN N i := nodes_full (g.nodup List.nodup_nil) (g.nodes (by simp)) h.full hn
  rcases walk_led h.ok h.hi _ hm with h1 | ⟨z, hz, j, h1, h2, h3⟩
  · cases h1
  · have hzn := g.nodes (by simp) z hz
    cases hb : z.tran
    · rw [wt_place N hb] at h2
      have : k = j := by unfold nextN at h3; injection h3
      subst this
      exact ⟨z.n, node_place hb hzn, h2⟩
    · unfold nextN at h3; rw [hb] at h3; cases h3
theorem ShapeOk.fits {N : NetD} {i o : Nat} (h : ShapeOk N i o) {p : Nat} (hp : p < N.places.toNat) : fitsB N (oneN (startLen N) (p : Int)) = true := by
  have h16 := netOk_p16 h.ok
  rw [startLen_ok h.ok]
  refine fits_mk h.ok (by rw [oneN_len]; omega) ((rightB_iff _).2 fun x hx => ?_)
  obtain ⟨j, hj, rfl⟩ := List.getElem_of_mem hx
  rw [← nth_lt hj, nth_oneN _ _ _ hp]
  split <;> omega
/-- at the end nothing can fire -/
theorem shape_end {N : NetD} {i o : Nat} (h : ShapeOk N i o) : enabledF N (oneN (startLen N) (o : Int)) = ([], 0) := by
  rw [enabledF_fit (h.fits h.ho)]
  have : enabledL N (oneN (startLen N) (o : Int)) = [] := by
    unfold enabledL
    rw [List.map_eq_nil_iff, List.filter_eq_nil_iff]
    intro k hk hc
    have hk' : k < N.trans.length := List.mem_range.1 hk
    obtain ⟨p, hp, hp0⟩ := h.takes hk'
    have h1 := (coversB_iff _ _).1 hc p
    rw [startLen_ok h.ok, nth_oneN _ _ _ h.ho] at h1
    have := h.pre k hk'
    split at h1
    · next e => subst e; omega
    · omega
  rw [this]
/-- a run from the beginning leaves it at once -/
theorem ShapeOk.zero_on {N : NetD} {i o : Nat} (h : ShapeOk N i o) {x s z : List Int} (hr : Runs N x s z) : fitsB N x = true → nth x i = 0 → nth z i = 0 := by
  induction hr with
  | nil x => exact fun _ => id
  | cons hf _ ih =>
    intro hx h0
    refine ih (hf.fits hx) ?_
    have := hf.eq i
    have := hf.pre i
    have := w_nth (netOk_tr h.ok hf.lt) i
    have := h.post _ hf.lt
    omega
theorem shape_leaves {N : NetD} {i o : Nat} (h : ShapeOk N i o) {s z : List Int} (hr : runF N (oneN (startLen N) (i : Int)) s = (z, 0)) (hs : s ≠ []) : nth z i = 0 := by
  obtain ⟨hfit, hr⟩ := runF_of hr
  cases hr with
  | nil => exact absurd rfl hs
  | cons hf hr =>
    refine h.zero_on hr (hf.fits hfit) ?_
    obtain ⟨p, hp, hp0⟩ := h.takes hf.lt
    have e := hf.eq i
    have h1 := hf.pre p
    have h2 := hf.pre i
    have := w_nth (netOk_tr h.ok hf.lt) i
    have := h.post _ hf.lt
    rw [startLen_ok h.ok, nth_oneN _ _ _ h.hi] at h1 h2 e
    rw [if_pos rfl] at h2 e
    split at h1
    · next e2 => subst e2; omega
    · omega

/-! ### the closed net -/
theorem closeN_len (N : NetD) (i o : Nat) : (closeN N i o).trans.length = N.trans.length + 1 := by unfold closeN; simp
theorem closeN_tr {N : NetD} {i o k : Nat} (hk : k < N.trans.length) : (closeN N i o).tr k = N.tr k := by
  unfold NetD.tr closeN
  simp only [List.getD_eq_getElem?_getD]
  rw [List.getElem?_append_left hk]
theorem closeN_last (N : NetD) (i o : Nat) : (closeN N i o).tr N.trans.length = closeT N i o := by
  unfold NetD.tr closeN
  simp
theorem closeT_ok {N : NetD} (h : netOkB N = true) (i o : Nat) : tranOkB N.places (closeT N i o) = true := by
  have h16 := netOk_p16 h
  have hb : ∀ p : Nat, (oneN N.places.toNat (p : Int)).any badW = false := fun p => by
    rw [List.any_eq_false]
    intro x hx
    have : x = 0 ∨ x = 1 := by
      unfold oneN at hx
      split at hx
      · rcases List.mem_or_eq_of_mem_set hx with h1 | h1
        · exact .inl (List.mem_replicate.1 h1).2
        · exact .inr h1
      · exact .inl (List.mem_replicate.1 hx).2
    unfold badW
    rcases this with rfl | rfl <;> decide
  unfold tranOkB closeT
  simp only [oneN_len, hb]
  simp
  omega
theorem closeN_ok {N : NetD} (h : netOkB N = true) (h24 : N.trans.length ≠ 24) (i o : Nat) : netOkB (closeN N i o) = true := by
  have hc := closeT_ok h i o
  unfold netOkB at h ⊢
  simp only [Bool.and_eq_true, decide_eq_true_eq, List.all_eq_true] at h ⊢
  obtain ⟨⟨⟨h1, h2⟩, h3⟩, h4⟩ := h
  refine ⟨⟨⟨h1, h2⟩, by rw [closeN_len]; omega⟩, fun t ht => ?_⟩
  unfold closeN at ht
  rcases List.mem_append.1 ht with h5 | h5
  · exact h4 t h5
  · rw [List.mem_singleton.1 h5]; exact hc
theorem fits_close {N : NetD} {i o : Nat} (h : netOkB N = true) (h24 : N.trans.length ≠ 24) (m : List Int) : fitsB (closeN N i o) m = fitsB N m := by
  unfold fitsB
  rw [closeN_ok h h24, h]; rfl
theorem fire_close {N : NetD} {i o : Nat} (h : netOkB N = true) (h24 : N.trans.length ≠ 24) (m : List Int) {t : Int} (ht : t ≠ N.trans.length) : fireF (closeN N i o) m t = fireF N m t := by
  unfold fireF
  rw [fits_close h h24]
  split
  · unfold fireL
    rw [closeN_len]
    by_cases h1 : 0 ≤ t ∧ t < N.trans.length
    · rw [if_pos h1, if_pos (by omega), closeN_tr (by omega)]
    · rw [if_neg h1, if_neg (by omega)]
  · rfl
theorem run_close {N : NetD} {i o : Nat} (h : netOkB N = true) (h24 : N.trans.length ≠ 24) {s : List Int} (hs : hasB s N.trans.length = false) : ∀ m, runF (closeN N i o) m s = runF N m s := by
  have key : ∀ (s : List Int), (∀ t ∈ s, t ≠ (N.trans.length : Int)) → ∀ m, runL (closeN N i o) m s = runL N m s := by
    intro s
    induction s with
    | nil => intro _ m; rw [runL_nil, runL_nil]
    | cons t s ih =>
      intro hs m
      rw [runL_cons, runL_cons, fire_close h h24 m (hs t (by simp)), ih (fun x hx => hs x (by simp [hx]))]
  intro m
  unfold runF
  rw [fits_close h h24, key s (fun t ht e => by
    have : hasB s N.trans.length = true := (hasB_iff _ _).2 (e ▸ ht)
    rw [hs] at this; cases this)]
theorem fire_last {N : NetD} {i o : Nat} (h : ShapeOk N i o) (h24 : N.trans.length ≠ 24) : fireF (closeN N i o) (oneN (startLen (closeN N i o)) (o : Int)) (N.trans.length : Nat) = (oneN (startLen (closeN N i o)) (i : Int), 0) := by
  have hsl : startLen (closeN N i o) = startLen N := by unfold startLen closeN; rfl
  rw [hsl]
  have hfo := h.fits h.ho
  have hfi := h.fits h.hi
  have hp := startLen_ok h.ok
  refine fire_eq (by rw [fits_close h.ok h24]; exact hfo) ⟨by rw [closeN_len]; omega, by rw [oneN_len, oneN_len], fun p => ?_, fun p => ?_, fun p => (fits_nth hfi p).2⟩
  · rw [closeN_last, hp]; exact Int.le_refl _
  · rw [closeN_last, hp]; unfold closeT; simp only []; omega
theorem close_end {N : NetD} {i o : Nat} (h : ShapeOk N i o) (h24 : N.trans.length ≠ 24) : shapeC (closeN N i o) i o = 1 := by
  have hi := h.hi
  have ho := h.ho
  have hne := h.ne
  have hp : (closeN N i o).places = N.places := rfl
  refine shapeC_end (closeN_ok h.ok h24 i o) (by rw [hp]; omega) ?_
  rw [List.any_eq_true]
  refine ⟨closeT N i o, by unfold closeN; simp, ?_⟩
  unfold endB closeT
  simp only []
  rw [nth_oneN _ _ _ hi, if_pos rfl]
  simp
theorem close_cases (N : NetD) (i o : Int) : (∃ c, closeF N i o = (⟨0, []⟩, c) ∧ c ≠ 0) ∨ (∃ a b : Nat, i = a ∧ o = b ∧ closeF N i o = (closeN N a b, 0) ∧ ShapeOk N a b ∧ N.trans.length ≠ 24) := by
  by_cases h : shapeC N i o = 0
  · by_cases h24 : N.trans.length = 24
    · exact .inl ⟨4, closeF_full h h24, by decide⟩
    · obtain ⟨a, b, rfl, rfl, hO⟩ := shape_ok h
      exact .inr ⟨a, b, rfl, rfl, closeF_ok h h24, hO, h24⟩
  · exact .inl ⟨_, closeF_wrong h, h⟩
theorem closeN_take (N : NetD) (i o : Nat) : (closeN N i o).trans.take N.trans.length = N.trans := by unfold closeN; simp
theorem closeN_places (N : NetD) (i o : Nat) : (closeN N i o).places = N.places := rfl
end Go.Tok
