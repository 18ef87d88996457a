/- Contract of grow.Grow. -/
import Derived.Test.YtajmccjnoejmfaaGrow6
import Derived.Test.YtajmccjnoejmfaaPC
namespace Go.Proofs.Ytajmccjnoejmfaa
open Go.RowKit Go.Tok
set_option linter.unusedVariables false
def RetGN (w : World) (r : NetD × Int) (e : Ending) (w' : World) : Prop := ∃ v', e = .returned (.tuple #[v', .int .i64 r.2]) ∧ NetR w' v' r.1 ∧ Gr w w'
theorem RetGN.mk {w w' : World} {r : NetD × Int} {N : NetD} {c : Int} {v : Value} (h : r = (N, c)) (hN : NetR w' v N) (g : Gr w w') : RetGN w r (.returned (.tuple #[v, .int .i64 c])) w' := by subst h; exact ⟨v, rfl, hN, g⟩
theorem RetGN.out {w w' : World} {r : NetD × Int} {e : Ending} (h : RetGN w r e w') : ∃ v', e = .returned (.tuple #[v', .int .i64 r.2]) ∧ NetR w' v' r.1 ∧ Gr w w' := h
attribute [irreducible] RetGN
theorem zeroNet' (w : World) : NetR w (.agg #[.int .i64 0, .slice none 0 0]) ⟨0, []⟩ := NetR.mk_ (N := ⟨0, []⟩) (TransR.nil w) (by simp [I64])
theorem leaves_ret {P : Program} {fn : Func} {tmps : Array Value} {R : Ending → World → Prop} {w : World} (v : Value) (h : (results fn tmps).run P w = .ok v w) (hR : R (.returned v) w) : Leaves P fn tmps R [] .returning w := ⟨v, h, hR⟩
set_option maxHeartbeats 4000000 in
set_option maxRecDepth 100000 in
theorem Grow_bad (n : Nat) (v : Value) (b : BlockD) (w : World) (h : BlockR n w v b) (hw : wrongB (n + 1) b ≠ 0) : Calls Try.prog 13 #[v] w (RetGN w (growN (n + 1) b)) := by
  have HR : Hid (growN (n + 1) b = (⟨0, []⟩, wrongB (n + 1) b)) := Lib.hid (by unfold growN; rw [if_neg hw])
  have he1 : (wrongB (n + 1) b != 0) = true := by simpa using hw
  have he2 : (wrongB (n + 1) b == 0) = false := by simpa using hw
  obtain ⟨_, _, a, cap, rfl, _, _, hB⟩ := h.open_
  have hmf : ∀ (fn : Fn) (first cap : Array Value) (w : World), (Instr.makeFunc fn first cap).run Try.prog w = .ok (.func fn first cap) w := fun _ _ _ _ => rfl
  have k0 : Blk (((w.alloc (.cells #[.int .i64 b.kind, .int .i64 b.label, .slice a b.kids.length cap] 24)).alloc (.cells #[.int .i64 0, .slice none 0 0] 28)).alloc (.cells #[.int .i64 0] 29)) w.heap.size 24 #[.int .i64 b.kind, .int .i64 b.label, .slice a b.kids.length cap] := ((Blk.new rfl).gr ((Gr.refl _).alloc _)).gr ((Gr.refl _).alloc _)
  have k1 : Blk (((w.alloc (.cells #[.int .i64 b.kind, .int .i64 b.label, .slice a b.kids.length cap] 24)).alloc (.cells #[.int .i64 0, .slice none 0 0] 28)).alloc (.cells #[.int .i64 0] 29)) (w.heap.size + 1) 28 #[.int .i64 0, .slice none 0 0] := (Blk.new (by simp)).gr ((Gr.refl _).alloc _)
  have k2 : Blk (((w.alloc (.cells #[.int .i64 b.kind, .int .i64 b.label, .slice a b.kids.length cap] 24)).alloc (.cells #[.int .i64 0, .slice none 0 0] 28)).alloc (.cells #[.int .i64 0] 29)) (w.heap.size + 1 + 1) 29 #[.int .i64 0] := Blk.new (by simp)
  have GA : Gr w (((w.alloc (.cells #[.int .i64 b.kind, .int .i64 b.label, .slice a b.kids.length cap] 24)).alloc (.cells #[.int .i64 0, .slice none 0 0] 28)).alloc (.cells #[.int .i64 0] 29)) := (((Gr.refl w).alloc _).alloc _).alloc _
  have c0 := k0.cell (i := 0) (v := .int .i64 b.kind) rfl
  have c1 := k0.cell (i := 1) (v := .int .i64 b.label) rfl
  have c2 := k0.cell (i := 2) (v := .slice a b.kids.length cap) rfl
  have hwr := BlocksWrong_calls n _ b _ (h.gr GA)
  generalize wrongB (n + 1) b = e at *
  clear hw
  go_enter_defers Try.func13, Try.ntmps13
  go_wp2_with fail
  refine hwr.mono ?_
  rintro _ w2 ⟨rfl, g2⟩
  replace k1 := k1.gr g2
  replace k2 := k2.gr g2
  have GZW := GA.trans g2
  have n0 := k1.cell (i := 0) (v := .int .i64 0) rfl
  have n1 := k1.cell (i := 1) (v := .slice none 0 0) rfl
  have f0 := k1.frozen 0
  have k11 := k1.set 0 (.int .i64 0)
  have k12 := k2.other (a := ⟨w.heap.size + 1, 0, none⟩) (by simp) (.int .i64 0)
  have n11 := k11.cell (i := 1) (v := .slice none 0 0) rfl
  have f1 := k11.frozen 1
  have k21 := k11.set 1 (.slice none 0 0)
  have k22 := k12.other (a := ⟨w.heap.size + 1, 1, none⟩) (by simp) (.slice none 0 0)
  have e0 := k22.cell (i := 0) (v := .int .i64 0) rfl
  have fe := k22.frozen 0
  have k31 := k21.other (a := ⟨w.heap.size + 1 + 1, 0, none⟩) (by simp) (.int .i64 e)
  have k32 := k22.set 0 (.int .i64 e)
  have r0 := k31.cell (i := 0) (v := .int .i64 0) rfl
  have r1 := k31.cell (i := 1) (v := .slice none 0 0) rfl
  have r2 := k32.cell (i := 0) (v := .int .i64 e) rfl
  have GZ := ((GZW.setCell (p := ⟨w.heap.size + 1, 0, none⟩) (by simp) (.int .i64 0)).setCell (p := ⟨w.heap.size + 1, 1, none⟩) (by simp) (.slice none 0 0)).setCell (p := ⟨w.heap.size + 1 + 1, 0, none⟩) (by simp; omega) (.int .i64 e)
  clear k0 k1 k2 k11 k12 k21 k22 k31 k32 GA g2 GZW
  go_wp2_with fail
  refine leaves_ret (.tuple #[.agg #[.int .i64 0, .slice none 0 0], .int .i64 e]) (by simp [results, Try.results13, go_sem, r0, r1, r2]) ?_
  exact RetGN.mk HR.out (zeroNet' _) GZ
set_option maxHeartbeats 4000000 in
set_option maxRecDepth 100000 in
theorem Grow_full (n : Nat) (v : Value) (b : BlockD) (w : World) (h : BlockR n w v b) (hw : wrongB (n + 1) b = 0) (hf : growF (n + 1) b 0 1 ⟨2, []⟩ = none) : Calls Try.prog 13 #[v] w (RetGN w (growN (n + 1) b)) := by
  have hok := wrongB_ok h hw
  have HR : Hid (growN (n + 1) b = (⟨0, []⟩, 4)) := Lib.hid (by unfold growN; rw [if_pos hw, hf])
  have HF := Lib.hid hf
  obtain ⟨_, _, a, cap, rfl, _, _, hB⟩ := h.open_
  have hmf : ∀ (fn : Fn) (first cap : Array Value) (w : World), (Instr.makeFunc fn first cap).run Try.prog w = .ok (.func fn first cap) w := fun _ _ _ _ => rfl
  have k0 : Blk (((w.alloc (.cells #[.int .i64 b.kind, .int .i64 b.label, .slice a b.kids.length cap] 24)).alloc (.cells #[.int .i64 0, .slice none 0 0] 28)).alloc (.cells #[.int .i64 0] 29)) w.heap.size 24 #[.int .i64 b.kind, .int .i64 b.label, .slice a b.kids.length cap] := ((Blk.new rfl).gr ((Gr.refl _).alloc _)).gr ((Gr.refl _).alloc _)
  have k1 : Blk (((w.alloc (.cells #[.int .i64 b.kind, .int .i64 b.label, .slice a b.kids.length cap] 24)).alloc (.cells #[.int .i64 0, .slice none 0 0] 28)).alloc (.cells #[.int .i64 0] 29)) (w.heap.size + 1) 28 #[.int .i64 0, .slice none 0 0] := (Blk.new (by simp)).gr ((Gr.refl _).alloc _)
  have k2 : Blk (((w.alloc (.cells #[.int .i64 b.kind, .int .i64 b.label, .slice a b.kids.length cap] 24)).alloc (.cells #[.int .i64 0, .slice none 0 0] 28)).alloc (.cells #[.int .i64 0] 29)) (w.heap.size + 1 + 1) 29 #[.int .i64 0] := Blk.new (by simp)
  have GA : Gr w (((w.alloc (.cells #[.int .i64 b.kind, .int .i64 b.label, .slice a b.kids.length cap] 24)).alloc (.cells #[.int .i64 0, .slice none 0 0] 28)).alloc (.cells #[.int .i64 0] 29)) := (((Gr.refl w).alloc _).alloc _).alloc _
  have c0 := k0.cell (i := 0) (v := .int .i64 b.kind) rfl
  have c1 := k0.cell (i := 1) (v := .int .i64 b.label) rfl
  have c2 := k0.cell (i := 2) (v := .slice a b.kids.length cap) rfl
  have hwr := BlocksWrong_calls n _ b _ (h.gr GA)
  rw [hw] at hwr
  clear hw hf
  go_enter_defers Try.func13, Try.ntmps13
  go_wp2_with fail
  refine hwr.mono ?_
  rintro _ w2 ⟨rfl, g2⟩
  replace k0 := k0.gr g2
  replace k1 := k1.gr g2
  replace k2 := k2.gr g2
  have GZW := GA.trans g2
  replace c0 := k0.cell (i := 0) (v := .int .i64 b.kind) rfl
  replace c1 := k0.cell (i := 1) (v := .int .i64 b.label) rfl
  replace c2 := k0.cell (i := 2) (v := .slice a b.kids.length cap) rfl
  have GB : Gr w2 (w2.alloc (.cells #[.int .i64 2, .slice none 0 0] 73)) := (Gr.refl _).alloc _
  have hG : GW w2 (w2.alloc (.cells #[.int .i64 2, .slice none 0 0] 73)) w2.heap.size (.slice none 0 0) ⟨2, []⟩ := ⟨Blk.new rfl, OwnR.nil _ _ _ _, GB, Nat.le_refl _, by simp [Value.ownBlock]⟩
  have hcall := grow_calls w2 w2.heap.size (n + 1) b a cap _ _ _ 0 1 hok ⟨n, rfl, hB.gr GZW⟩ hG ⟨by simp, by simp, by simp, by simp, by simp, by simp⟩ (by omega) (by simp) (by omega) (by simp)
  replace c0 := cell_gr c0 GB
  replace c1 := cell_gr c1 GB
  replace c2 := cell_gr c2 GB
  rw [HF.out] at hcall
  go_wp2_with fail
  refine hcall.mono ?_
  rintro _ w3 hr
  rcases hr.cases with ⟨s', lv', h1, _⟩ | ⟨_, rfl, g3⟩
  · cases h1
  replace k1 := k1.gr g3
  replace k2 := k2.gr g3
  have GX := GZW.trans g3
  clear hcall hG HF c0 c1 c2 k0 hr
  go_wp2_with fail
  refine leaves_cons (f := 34) (args := #[.pointer (some ⟨w.heap.size + 1, 0, none⟩), .pointer (some ⟨w.heap.size + 1 + 1, 0, none⟩)]) (by simp) (by simp [go_sem]) ?_
  refine (catch_full (w.heap.size + 1) (w.heap.size + 1 + 1) _ _ _ _ k1 k2 (by omega)).mono ?_
  rintro e u' w'' ⟨rfl, rfl, n4, e4, hg⟩
  have r0 := n4.cell (i := 0) (v := .int .i64 0) rfl
  have r1 := n4.cell (i := 1) (v := .slice none 0 0) rfl
  have r2 := e4.cell (i := 0) (v := .int .i64 4) rfl
  refine leaves_ret (.tuple #[.agg #[.int .i64 0, .slice none 0 0], .int .i64 4]) (by simp [results, Try.results13, go_sem, r0, r1, r2]) ?_
  exact RetGN.mk HR.out (zeroNet' _) (hg w GX (by omega) (by omega))
end Go.Proofs.Ytajmccjnoejmfaa
