/- Contract of shape.walk: a map whose keys are the nodes that the search finds. -/
import Derived.Test.YtmigejcejnofiaaShape2
import Derived.Laws.EntriesVeiled
namespace Go.Proofs.Ytmigejcejnofiaa
open Go.RowKit Go.Tok
set_option linter.unusedVariables false

theorem env_walk (t0 t1 t2 : TypeId) (N : NetD) (a : Option Addr) (cap : Nat) (w : World) :
    Env N a cap (w.heap.size + 1 + 1) w.heap.size (w.heap.size + 1 + 1 + 1) (w.heap.size + 1) (w.alloc (Obj.cells #[Value.int IntKind.i64 N.places, Value.slice a N.trans.length cap] t0))
      ((((w.alloc (Obj.cells #[Value.int IntKind.i64 N.places, Value.slice a N.trans.length cap] t0)).alloc (Obj.map #[] 0)).alloc (Obj.cells #[Value.map (some (w.heap.size + 1))] t1)).alloc
        (Obj.cells #[Value.func (Fn.func 101) #[] #[Value.pointer (some ⟨w.heap.size + 1 + 1, 0, none⟩), Value.pointer (some ⟨w.heap.size, 0, none⟩), Value.pointer (some ⟨w.heap.size + 1 + 1 + 1, 0, none⟩)]] t2)) := by
  have G1 := (Gr.refl (w.alloc (Obj.cells #[Value.int IntKind.i64 N.places, Value.slice a N.trans.length cap] t0))).alloc (Obj.map #[] 0)
  have G2 := G1.alloc (Obj.cells #[Value.map (some (w.heap.size + 1))] t1)
  have G3 := G2.alloc (Obj.cells #[Value.func (Fn.func 101) #[] #[Value.pointer (some ⟨w.heap.size + 1 + 1, 0, none⟩), Value.pointer (some ⟨w.heap.size, 0, none⟩), Value.pointer (some ⟨w.heap.size + 1 + 1 + 1, 0, none⟩)]] t2)
  have s1 : ∀ (u : World) (o : Obj), (u.alloc o).heap.size = u.heap.size + 1 := World.size_alloc
  constructor
  · have := box_cell (w := ((w.alloc (Obj.cells #[Value.int IntKind.i64 N.places, Value.slice a N.trans.length cap] t0)).alloc (Obj.map #[] 0))) (cs := #[Value.map (some (w.heap.size + 1))]) (t := t1) (Gr.refl _) (i := 0) rfl
    rw [s1, s1] at this
    exact cell_gr this ((Gr.refl _).alloc _)
  · have := box_cell (w := (((w.alloc (Obj.cells #[Value.int IntKind.i64 N.places, Value.slice a N.trans.length cap] t0)).alloc (Obj.map #[] 0)).alloc (Obj.cells #[Value.map (some (w.heap.size + 1))] t1))) (cs := #[Value.func (Fn.func 101) #[] #[Value.pointer (some ⟨w.heap.size + 1 + 1, 0, none⟩), Value.pointer (some ⟨w.heap.size, 0, none⟩), Value.pointer (some ⟨w.heap.size + 1 + 1 + 1, 0, none⟩)]]) (t := t2) (Gr.refl _) (i := 0) rfl
    rw [s1, s1, s1] at this
    exact this
  · exact cell_gr (box_cell (Gr.refl _) (i := 0) rfl) G3
  · exact cell_gr (box_cell (Gr.refl _) (i := 1) rfl) G3
  · exact G3
  · rw [s1]; exact Nat.le_refl _
  · omega
  · omega
  · omega

set_option maxHeartbeats 4000000 in
set_option maxRecDepth 100000 in
theorem walk_calls (v : Value) (N : NetD) (i : Nat) (w : World) (hN : NetR w v N) (hok : netOkB N = true) (hi : i < N.places.toNat) :
    Calls Try.prog 58 #[v, .int .i64 (i : Int)] w fun e w' => ∃ b, e = .returned (.map (some b)) ∧ MSet Try.prog 126 w' b ((walkN N i).map nodeV) ∧ Gr w w' := by
  have hmm := @run_makeMap Try.prog
  have eg : ∀ args w, (callFunc 101 args).run Try.prog w = .ok (.enter 101 args) w := (Go.Proofs.enters_of Try.func101 (by kernel_rfl) rfl)
  obtain ⟨a, cap, rfl, hnl, hncap, hpl, hT⟩ := hN.open_
  have hpl1 := hpl.1
  have hpl2 := hpl.2
  have E0 := env_walk 24 85 124 N a cap w
  have M0 : MSet Try.prog 126 (w.alloc (Obj.cells #[Value.int IntKind.i64 N.places, Value.slice a N.trans.length cap] 24) |>.alloc (Obj.map #[] 0)) (w.heap.size + 1) ([].map nodeV) := by
    have := MSet.new (P := Try.prog) (k := 126) (w.alloc (Obj.cells #[Value.int IntKind.i64 N.places, Value.slice a N.trans.length cap] 24))
    simpa only [World.size_alloc, List.map_nil] using this
  have M1 := (M0.gr ((Gr.refl _).alloc (Obj.cells #[Value.map (some (w.heap.size + 1))] 85))).gr ((Gr.refl _).alloc (Obj.cells #[Value.func (Fn.func 101) #[] #[Value.pointer (some ⟨w.heap.size + 1 + 1, 0, none⟩), Value.pointer (some ⟨w.heap.size, 0, none⟩), Value.pointer (some ⟨w.heap.size + 1 + 1 + 1, 0, none⟩)]] 124))
  have hcall := visit_calls N a cap _ _ _ _ _ (hT.gr ((Gr.refl w).alloc (Obj.cells #[Value.int IntKind.i64 N.places, Value.slice a N.trans.length cap] 24))) hok hnl hncap (sizeN N) [] ⟨false, i⟩ _ E0 M1 (by simp) (by simpa [isNode] using hi) (by simp)
  have HW := Lib.hid (show dfsF N (sizeN N + 1) [] ⟨false, i⟩ = walkN N i from (walkN_def N i).symm)
  go_enter Try.func58, Try.ntmps58
  go_wp2_with (go_at_fn 101; refine hcall.mono ?_; rintro e w4 ⟨rfl, m4, g4⟩; have E4 := (E0.grown g4); have h4 := E4.had)
  refine bodyPost_ret (v := .map (some (w.heap.size + 1))) (by simp [results, Try.results58, go_sem]) rfl ?_
  exact ⟨_, rfl, by rw [← HW.out]; exact m4, ((Gr.refl w).alloc _).trans E4.gr⟩
end Go.Proofs.Ytmigejcejnofiaa
