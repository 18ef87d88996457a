/- The deferred closure of grow.Grow: in a frame that panics, and in one that returns. -/
import Derived.Test.YtajmccjnoejmfaaGrow5
import Derived.Defers
import Derived.Recover
namespace Go.Proofs.Ytajmccjnoejmfaa
open Go.RowKit Go.Tok
set_option linter.unusedVariables false
set_option maxHeartbeats 4000000 in
set_option maxRecDepth 100000 in
theorem catch_idle (nb eb : Nat) (w : World) :
    CallsD Try.prog 34 #[.pointer (some ⟨nb, 0, none⟩), .pointer (some ⟨eb, 0, none⟩)] .returning w fun e u' w' => e = .returned (.tuple #[]) ∧ u' = .returning ∧ w' = w := by
  refine callsD_of_wpS Try.func34 rfl fun c₀ cs hu => ?_
  apply wpS_seq
  apply wpS_region
  simp [wpOpsS, go_sem, recoverD, hu, Try.ntmps34, Exit.thenS]
  refine wpS_of_wp ?_
  go_wp2_with fail
  refine ⟨rfl, .returning, ?_, .tuple #[], results_none rfl _ _ _, rfl, rfl, rfl⟩
  cases c₀
  simp_all
set_option maxHeartbeats 4000000 in
set_option maxRecDepth 100000 in
theorem catch_full (nb eb : Nat) (w : World) (x y z : Value) (hn : Blk w nb 28 #[x, y]) (he : Blk w eb 29 #[z]) (hne : nb ≠ eb) :
    CallsD Try.prog 34 #[.pointer (some ⟨nb, 0, none⟩), .pointer (some ⟨eb, 0, none⟩)] (.panicking fullP) w fun e u' w' => e = .returned (.tuple #[]) ∧ u' = .panicking [{ v := .iface 68 (.agg #[]), recovered := true }] ∧ Blk w' nb 28 #[.int .i64 0, .slice none 0 0] ∧ Blk w' eb 29 #[.int .i64 4] ∧ ∀ w0 : World, Gr w0 w → w0.heap.size ≤ nb → w0.heap.size ≤ eb → Gr w0 w' := by
  unfold fullP
  have hta : ∀ u : World, (Instr.typeAssert (.iface 68 (.agg #[])) 20 68 true).run Try.prog u = .ok (.tuple #[.agg #[], .bool true]) u := fun u => by kernel_rfl
  refine callsD_of_wpS Try.func34 rfl fun c₀ cs hu => ?_
  apply wpS_seq
  apply wpS_region
  simp [wpOpsS, go_sem, recoverD, hu, Try.ntmps34, Exit.thenS]
  refine wpS_of_wp ?_
  have G1 : Gr w (w.alloc (.cells #[] 68)) := (Gr.refl _).alloc _
  have n1 := hn.gr G1
  have e1 := he.gr G1
  have c0 := n1.cell (i := 0) (v := x) rfl
  have c1 := n1.cell (i := 1) (v := y) rfl
  have f0 := n1.frozen 0
  have n2 := n1.set 0 (.int .i64 0)
  have e2 := e1.other (a := ⟨nb, 0, none⟩) hne.symm (.int .i64 0)
  have c12 := n2.cell (i := 1) (v := y) rfl
  have f1 := n2.frozen 1
  have n3 := n2.set 1 (.slice none 0 0)
  have e3 := e2.other (a := ⟨nb, 1, none⟩) hne.symm (.slice none 0 0)
  have c2 := e3.cell (i := 0) (v := z) rfl
  have f2 := e3.frozen 0
  have n4 := n3.other (a := ⟨eb, 0, none⟩) hne (.int .i64 4)
  have e4 := e3.set 0 (.int .i64 4)
  go_wp2_with fail
  exact ⟨rfl, .panicking [{ v := .iface 68 (.agg #[]), recovered := true }], rfl, .tuple #[], results_none rfl _ _ _, rfl, rfl, n4, e4, fun w0 g h1 h2 => (((g.alloc _).setCell h1 _).setCell h1 _).setCell h2 _⟩
end Go.Proofs.Ytajmccjnoejmfaa
