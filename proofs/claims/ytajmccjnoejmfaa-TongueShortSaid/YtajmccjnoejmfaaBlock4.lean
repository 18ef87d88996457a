/- Contract of blocks.Wrong. -/
import Derived.Test.YtajmccjnoejmfaaBlock3
import Derived.Laws.EntriesVeiled
namespace Go.Proofs.Ytajmccjnoejmfaa
open Go.RowKit Go.Tok
set_option linter.unusedVariables false
set_option maxHeartbeats 4000000 in
set_option maxRecDepth 100000 in
theorem BlocksWrong_calls (n : Nat) (v : Value) (b : BlockD) (w : World) (h : BlockR n w v b) : Calls Try.prog 24 #[v] w fun e w' => e = .returned (.int .i64 (wrongB (n + 1) b)) ∧ Gr w w' := by
  obtain ⟨_, _, a, cap, rfl, _, _, hB⟩ := h.open_
  have eg : ∀ args w, (callFunc 54 args).run Try.prog w = .ok (.enter 54 args) w := (Go.Proofs.enters_of Try.func54 (by kernel_rfl) rfl)
  have G1 := (Gr.refl w).alloc (.cells #[.int .i64 b.kind, .int .i64 b.label, .slice a b.kids.length cap] 24)
  have bk1 : Blk (w.alloc (.cells #[.int .i64 b.kind, .int .i64 b.label, .slice a b.kids.length cap] 24)) w.heap.size 24 #[.int .i64 b.kind, .int .i64 b.label, .slice a b.kids.length cap] := Blk.new rfl
  have bk2 : Blk ((w.alloc (.cells #[.int .i64 b.kind, .int .i64 b.label, .slice a b.kids.length cap] 24)).alloc (.cells #[.int .i64 0] 3)) (w.heap.size + 1) 3 #[.int .i64 0] := Blk.new (by simp)
  have bk3 : Blk (((w.alloc (.cells #[.int .i64 b.kind, .int .i64 b.label, .slice a b.kids.length cap] 24)).alloc (.cells #[.int .i64 0] 3)).alloc (.cells #[(.func (.func 54) #[] #[.pointer (some ⟨w.heap.size + 1, 0, none⟩), .pointer (some ⟨w.heap.size + 1 + 1, 0, none⟩)])] 49)) (w.heap.size + 1 + 1) 49 #[(.func (.func 54) #[] #[.pointer (some ⟨w.heap.size + 1, 0, none⟩), .pointer (some ⟨w.heap.size + 1 + 1, 0, none⟩)])] := Blk.new (by simp)
  have G2 := (G1.alloc (.cells #[.int .i64 0] 3)).alloc (.cells #[(.func (.func 54) #[] #[.pointer (some ⟨w.heap.size + 1, 0, none⟩), .pointer (some ⟨w.heap.size + 1 + 1, 0, none⟩)])] 49)
  have bk1' := (bk1.gr ((Gr.refl _).alloc (.cells #[.int .i64 0] 3))).gr ((Gr.refl _).alloc (.cells #[(.func (.func 54) #[] #[.pointer (some ⟨w.heap.size + 1, 0, none⟩), .pointer (some ⟨w.heap.size + 1 + 1, 0, none⟩)])] 49))
  have bk2' := bk2.gr ((Gr.refl _).alloc (.cells #[(.func (.func 54) #[] #[.pointer (some ⟨w.heap.size + 1, 0, none⟩), .pointer (some ⟨w.heap.size + 1 + 1, 0, none⟩)])] 49))
  have d0 := bk1'.cell (i := 0) (v := .int .i64 b.kind) rfl
  have d1 := bk1'.cell (i := 1) (v := .int .i64 b.label) rfl
  have d2 := bk1'.cell (i := 2) (v := .slice a b.kids.length cap) rfl
  have d3 := bk3.cell (i := 0) rfl
  have E0 : EnvC w (w.heap.size + 1) (w.heap.size + 1 + 1) 0 _ := ⟨bk2', d3, G2, by omega, by omega⟩
  have hcall := check_calls w (w.heap.size + 1) (w.heap.size + 1 + 1) (n + 1) b a cap _ 0 ⟨n, rfl, hB⟩ E0 (by omega)
  clear bk1 bk2 bk3 bk1' bk2' G1 G2
  go_enter Try.func24, Try.ntmps24
  go_wp2_with fail
  refine hcall.mono ?_
  rintro _ w3 hr
  obtain ⟨rfl, E3⟩ := hr.out
  go_wp2_with fail
  go_ret
  exact ⟨rfl, E3.gr⟩
end Go.Proofs.Ytajmccjnoejmfaa
