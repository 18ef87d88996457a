/- Contracts of grow.grow as a whole, and of weights. -/
import Derived.Test.YtjpapgbdhflgnaaGK
import Derived.Test.YtjpapgbdhflgnaaGP
import Derived.Test.YtjpapgbdhflgnaaBK
import Derived.Defers
import Derived.Recover
import Derived.Test.YtjpapgbdhflgnaaPC
import Derived.Test.YtjpapgbdhflgnaaGN
namespace Go.Proofs.Ytjpapgbdhflgnaa
open Go.RowKit Go.Tok
set_option linter.unusedVariables false
theorem grow_calls (w0 : World) (gb : Nat) : ∀ n, GrowC w0 gb n := by
  intro n
  induction n with
  | zero =>
    rintro b a cap w lv s f t hb
    exact hb.elim
  | succ n ih =>
    rintro b a cap w lv s f t hb ⟨m, hm, hB⟩ h ok hf0 hf1 ht0 ht1
    cases hm
    have k1 := hb.1
    have k2 := hb.2.1
    by_cases c1 : b.kind = 1 ∨ b.kind = 2
    · exact grow_leaf c1 hb h ok hf0 hf1 ht0 ht1
    by_cases c3 : b.kind = 3
    · exact grow_seq ih c3 hb hB h ok hf0 hf1 ht0 ht1
    by_cases c4 : b.kind = 4
    · exact grow_choice ih c4 hb hB h ok hf0 hf1 ht0 ht1
    by_cases c5 : b.kind = 5
    · exact grow_both ih c5 hb hB h ok hf0 hf1 ht0 ht1
    exact grow_loop ih (by omega) hb hB h ok hf0 hf1 ht0 ht1
def setsF (n : Nat) (l : List Int) : List Int := l.foldl (fun out p => out.set p.toNat 1) (List.replicate n 0)
theorem setsF_snoc (n : Nat) (l : List Int) (p : Int) : setsF n (l ++ [p]) = (setsF n l).set p.toNat 1 := by unfold setsF; rw [List.foldl_append]; rfl
theorem setsF_len (n : Nat) (l : List Int) : (setsF n l).length = n := weights_len n l
theorem take_nth {l : List Int} {k : Nat} (h : k < l.length) : l.take (k + 1) = l.take k ++ [nth l k] := by rw [List.take_succ_eq_append_getElem h, nth_lt h]
set_option maxHeartbeats 4000000 in
set_option maxRecDepth 100000 in
theorem weights_calls (n : Nat) (v : Value) (l : List Int) (w : World) (hn : n ≤ 16) (hv : Ints w v l) (hl : PlIn n l) :
    Calls Try.prog 18 #[.int .i64 (n : Int), v] w fun e w' => ∃ v', e = .returned v' ∧ OwnI 3 w.heap.size w' v' (weightsF n l) ∧ Gr w w' := by
  obtain ⟨a, cap, rfl, hl1, hl2⟩ := hv.len
  go_enter Try.func18, Try.ntmps18
  go_wp2_with (refine mk_ints intTy _ _ w.heap.size n _ _ (by rfl) (by rfl) (by rfl) (by rfl) rfl rfl (by omega) (Nat.le_refl _) ?_; intro w1 ho1 hg1 hlt1)
  go_loopw [12] (fun i wr => ∃ k : Nat, i = .int .i64 k ∧ k ≤ l.length ∧ OwnI 3 w.heap.size wr (.slice (some ⟨w.heap.size, 0, none⟩) n n) (setsF n (l.take k)) ∧ Gr w wr) (fun i _ => l.length - (intOf i).toNat)
  case atStart => exact ⟨0, rfl, Nat.zero_le _, by simpa [setsF] using ho1, hg1⟩
  case round =>
    rename World => wr
    obtain ⟨k, rfl, hkl, ho, hg⟩ := hrel
    by_cases hlt : k < l.length
    · obtain ⟨lb, lo, rfl, c0⟩ := (hv.gr hg).cell hlt
      have hkI : (k : Int) < (l.length : Int) := by omega
      have hp := hl (nth l k) (by rw [nth_lt hlt]; exact List.getElem_mem hlt)
      obtain ⟨q, hq⟩ := Int.eq_ofNat_of_zero_le hp.1
      have hqn : q < n := by omega
      have hqI : (q : Int) < (n : Int) := by omega
      have hs := ho.set q 1 (by decide)
      have ht : (setsF n (l.take k)).set q 1 = setsF n (l.take (k + 1)) := by rw [take_nth hlt, setsF_snoc, hq, Int.toNat_natCast]
      rw [ht] at hs
      have d0 := ho.cell (i := q) (by rw [setsF_len]; exact hqn)
      have f0 := ho.frozen q
      rw [hq] at c0
      clear ht hq hp
      go_wp2_with fail
      go_roundw
      case rel => exact ⟨k + 1, by go_num, by omega, hs, hg.setCell (Nat.le_refl _) _⟩
      case measure => simp [intOf]; omega
    · obtain rfl : k = l.length := by omega
      go_wp2_with fail
      go_ret
      exact ⟨_, rfl, by rw [List.take_length] at ho; exact ho, hg⟩
end Go.Proofs.Ytjpapgbdhflgnaa

/- The deferred closure of grow.Grow: in a frame that panics, and in one that returns. -/
namespace Go.Proofs.Ytjpapgbdhflgnaa
open Go.RowKit Go.Tok
set_option linter.unusedVariables false
set_option maxHeartbeats 4000000 in
set_option maxRecDepth 100000 in
theorem catch_idle (nb eb : Nat) (w : World) :
    CallsD Try.prog 16 #[.pointer (some ⟨nb, 0, none⟩), .pointer (some ⟨eb, 0, none⟩)] .returning w fun e u' w' => e = .returned (.tuple #[]) ∧ u' = .returning ∧ w' = w := by
  refine callsD_of_wpS Try.func16 rfl fun c₀ cs hu => ?_
  apply wpS_seq
  apply wpS_region
  simp [wpOpsS, go_sem, recoverD, hu, Try.ntmps16, Exit.thenS]
  refine wpS_of_wp ?_
  go_wp2_with fail
  refine ⟨rfl, .returning, ?_, .tuple #[], results_none rfl _ _ _, rfl, rfl, rfl⟩
  cases c₀
  simp_all
set_option maxHeartbeats 4000000 in
set_option maxRecDepth 100000 in
theorem catch_full (nb eb : Nat) (w : World) (x y z : Value) (hn : Blk w nb 28 #[x, y]) (he : Blk w eb 29 #[z]) (hne : nb ≠ eb) :
    CallsD Try.prog 16 #[.pointer (some ⟨nb, 0, none⟩), .pointer (some ⟨eb, 0, none⟩)] (.panicking fullP) w fun e u' w' => e = .returned (.tuple #[]) ∧ u' = .panicking [{ v := .iface 51 (.agg #[]), recovered := true }] ∧ Blk w' nb 28 #[.int .i64 0, .slice none 0 0] ∧ Blk w' eb 29 #[.int .i64 4] ∧ ∀ w0 : World, Gr w0 w → w0.heap.size ≤ nb → w0.heap.size ≤ eb → Gr w0 w' := by
  unfold fullP
  have hta : ∀ u : World, (Instr.typeAssert (.iface 51 (.agg #[])) 20 51 true).run Try.prog u = .ok (.tuple #[.agg #[], .bool true]) u := fun u => by kernel_rfl
  refine callsD_of_wpS Try.func16 rfl fun c₀ cs hu => ?_
  apply wpS_seq
  apply wpS_region
  simp [wpOpsS, go_sem, recoverD, hu, Try.ntmps16, Exit.thenS]
  refine wpS_of_wp ?_
  have G1 : Gr w (w.alloc (.cells #[] 51)) := (Gr.refl _).alloc _
  have n1 := hn.gr G1
  have e1 := he.gr G1
  have c0 := n1.cell (i := 0) (v := x) rfl
  have c1 := n1.cell (i := 1) (v := y) rfl
  have f0 := n1.frozen 0
  have n2 := n1.set 0 (.int .i64 0)
  have e2 := e1.other (a := ⟨nb, 0, none⟩) hne.symm (.int .i64 0)
  have c12 := n2.cell (i := 1) (v := y) rfl
  have f1 := n2.frozen 1
  have n3 := n2.set 1 (.slice none 0 0)
  have e3 := e2.other (a := ⟨nb, 1, none⟩) hne.symm (.slice none 0 0)
  have c2 := e3.cell (i := 0) (v := z) rfl
  have f2 := e3.frozen 0
  have n4 := n3.other (a := ⟨eb, 0, none⟩) hne (.int .i64 4)
  have e4 := e3.set 0 (.int .i64 4)
  go_wp2_with fail
  exact ⟨rfl, .panicking [{ v := .iface 51 (.agg #[]), recovered := true }], rfl, .tuple #[], results_none rfl _ _ _, rfl, rfl, n4, e4, fun w0 g h1 h2 => (((g.alloc _).setCell h1 _).setCell h1 _).setCell h2 _⟩
end Go.Proofs.Ytjpapgbdhflgnaa

/- Contract of grow.Grow. -/
namespace Go.Proofs.Ytjpapgbdhflgnaa
open Go.RowKit Go.Tok
set_option linter.unusedVariables false
def RetGN (w : World) (r : NetD × Int) (e : Ending) (w' : World) : Prop := ∃ v', e = .returned (.tuple #[v', .int .i64 r.2]) ∧ NetR w' v' r.1 ∧ Gr w w'
theorem RetGN.mk {w w' : World} {r : NetD × Int} {N : NetD} {c : Int} {v : Value} (h : r = (N, c)) (hN : NetR w' v N) (g : Gr w w') : RetGN w r (.returned (.tuple #[v, .int .i64 c])) w' := by subst h; exact ⟨v, rfl, hN, g⟩
theorem RetGN.out {w w' : World} {r : NetD × Int} {e : Ending} (h : RetGN w r e w') : ∃ v', e = .returned (.tuple #[v', .int .i64 r.2]) ∧ NetR w' v' r.1 ∧ Gr w w' := h
attribute [irreducible] RetGN
theorem zeroNet' (w : World) : NetR w (.agg #[.int .i64 0, .slice none 0 0]) ⟨0, []⟩ := NetR.mk_ (N := ⟨0, []⟩) (TransR.nil w) (by simp [I64])
theorem leaves_ret {P : Program} {fn : Func} {tmps : Array Value} {R : Ending → World → Prop} {w : World} (v : Value) (h : (results fn tmps).run P w = .ok v w) (hR : R (.returned v) w) : Leaves P fn tmps R [] .returning w := ⟨v, h, hR⟩
set_option maxHeartbeats 4000000 in
set_option maxRecDepth 100000 in
theorem Grow_bad (n : Nat) (v : Value) (b : BlockD) (w : World) (h : BlockR n w v b) (hw : wrongB (n + 1) b ≠ 0) : Calls Try.prog 7 #[v] w (RetGN w (growN (n + 1) b)) := by
  have HR : Hid (growN (n + 1) b = (⟨0, []⟩, wrongB (n + 1) b)) := Lib.hid (by unfold growN; rw [if_neg hw])
  have he1 : (wrongB (n + 1) b != 0) = true := by simpa using hw
  have he2 : (wrongB (n + 1) b == 0) = false := by simpa using hw
  obtain ⟨_, _, a, cap, rfl, _, _, hB⟩ := h.open_
  have hmf : ∀ (fn : Fn) (first cap : Array Value) (w : World), (Instr.makeFunc fn first cap).run Try.prog w = .ok (.func fn first cap) w := fun _ _ _ _ => rfl
  have k0 : Blk (((w.alloc (.cells #[.int .i64 b.kind, .int .i64 b.label, .slice a b.kids.length cap] 24)).alloc (.cells #[.int .i64 0, .slice none 0 0] 28)).alloc (.cells #[.int .i64 0] 29)) w.heap.size 24 #[.int .i64 b.kind, .int .i64 b.label, .slice a b.kids.length cap] := ((Blk.new rfl).gr ((Gr.refl _).alloc _)).gr ((Gr.refl _).alloc _)
  have k1 : Blk (((w.alloc (.cells #[.int .i64 b.kind, .int .i64 b.label, .slice a b.kids.length cap] 24)).alloc (.cells #[.int .i64 0, .slice none 0 0] 28)).alloc (.cells #[.int .i64 0] 29)) (w.heap.size + 1) 28 #[.int .i64 0, .slice none 0 0] := (Blk.new (by simp)).gr ((Gr.refl _).alloc _)
  have k2 : Blk (((w.alloc (.cells #[.int .i64 b.kind, .int .i64 b.label, .slice a b.kids.length cap] 24)).alloc (.cells #[.int .i64 0, .slice none 0 0] 28)).alloc (.cells #[.int .i64 0] 29)) (w.heap.size + 1 + 1) 29 #[.int .i64 0] := Blk.new (by simp)
  have GA : Gr w (((w.alloc (.cells #[.int .i64 b.kind, .int .i64 b.label, .slice a b.kids.length cap] 24)).alloc (.cells #[.int .i64 0, .slice none 0 0] 28)).alloc (.cells #[.int .i64 0] 29)) := (((Gr.refl w).alloc _).alloc _).alloc _
  have c0 := k0.cell (i := 0) (v := .int .i64 b.kind) rfl
  have c1 := k0.cell (i := 1) (v := .int .i64 b.label) rfl
  have c2 := k0.cell (i := 2) (v := .slice a b.kids.length cap) rfl
  have hwr := BlocksWrong_calls n _ b _ (h.gr GA)
  generalize wrongB (n + 1) b = e at *
  clear hw
  go_enter_defers Try.func7, Try.ntmps7
  go_wp2_with fail
  refine hwr.mono ?_
  rintro _ w2 ⟨rfl, g2⟩
  replace k1 := k1.gr g2
  replace k2 := k2.gr g2
  have GZW := GA.trans g2
  have n0 := k1.cell (i := 0) (v := .int .i64 0) rfl
  have n1 := k1.cell (i := 1) (v := .slice none 0 0) rfl
  have f0 := k1.frozen 0
  have k11 := k1.set 0 (.int .i64 0)
  have k12 := k2.other (a := ⟨w.heap.size + 1, 0, none⟩) (by simp) (.int .i64 0)
  have n11 := k11.cell (i := 1) (v := .slice none 0 0) rfl
  have f1 := k11.frozen 1
  have k21 := k11.set 1 (.slice none 0 0)
  have k22 := k12.other (a := ⟨w.heap.size + 1, 1, none⟩) (by simp) (.slice none 0 0)
  have e0 := k22.cell (i := 0) (v := .int .i64 0) rfl
  have fe := k22.frozen 0
  have k31 := k21.other (a := ⟨w.heap.size + 1 + 1, 0, none⟩) (by simp) (.int .i64 e)
  have k32 := k22.set 0 (.int .i64 e)
  have r0 := k31.cell (i := 0) (v := .int .i64 0) rfl
  have r1 := k31.cell (i := 1) (v := .slice none 0 0) rfl
  have r2 := k32.cell (i := 0) (v := .int .i64 e) rfl
  have GZ := ((GZW.setCell (p := ⟨w.heap.size + 1, 0, none⟩) (by simp) (.int .i64 0)).setCell (p := ⟨w.heap.size + 1, 1, none⟩) (by simp) (.slice none 0 0)).setCell (p := ⟨w.heap.size + 1 + 1, 0, none⟩) (by simp; omega) (.int .i64 e)
  clear k0 k1 k2 k11 k12 k21 k22 k31 k32 GA g2 GZW
  go_wp2_with fail
  refine leaves_ret (.tuple #[.agg #[.int .i64 0, .slice none 0 0], .int .i64 e]) (by simp [results, Try.results7, go_sem, r0, r1, r2]) ?_
  exact RetGN.mk HR.out (zeroNet' _) GZ
set_option maxHeartbeats 4000000 in
set_option maxRecDepth 100000 in
theorem Grow_full (n : Nat) (v : Value) (b : BlockD) (w : World) (h : BlockR n w v b) (hw : wrongB (n + 1) b = 0) (hf : growF (n + 1) b 0 1 ⟨2, []⟩ = none) : Calls Try.prog 7 #[v] w (RetGN w (growN (n + 1) b)) := by
  have hok := wrongB_ok h hw
  have HR : Hid (growN (n + 1) b = (⟨0, []⟩, 4)) := Lib.hid (by unfold growN; rw [if_pos hw, hf])
  have HF := Lib.hid hf
  obtain ⟨_, _, a, cap, rfl, _, _, hB⟩ := h.open_
  have hmf : ∀ (fn : Fn) (first cap : Array Value) (w : World), (Instr.makeFunc fn first cap).run Try.prog w = .ok (.func fn first cap) w := fun _ _ _ _ => rfl
  have k0 : Blk (((w.alloc (.cells #[.int .i64 b.kind, .int .i64 b.label, .slice a b.kids.length cap] 24)).alloc (.cells #[.int .i64 0, .slice none 0 0] 28)).alloc (.cells #[.int .i64 0] 29)) w.heap.size 24 #[.int .i64 b.kind, .int .i64 b.label, .slice a b.kids.length cap] := ((Blk.new rfl).gr ((Gr.refl _).alloc _)).gr ((Gr.refl _).alloc _)
  have k1 : Blk (((w.alloc (.cells #[.int .i64 b.kind, .int .i64 b.label, .slice a b.kids.length cap] 24)).alloc (.cells #[.int .i64 0, .slice none 0 0] 28)).alloc (.cells #[.int .i64 0] 29)) (w.heap.size + 1) 28 #[.int .i64 0, .slice none 0 0] := (Blk.new (by simp)).gr ((Gr.refl _).alloc _)
  have k2 : Blk (((w.alloc (.cells #[.int .i64 b.kind, .int .i64 b.label, .slice a b.kids.length cap] 24)).alloc (.cells #[.int .i64 0, .slice none 0 0] 28)).alloc (.cells #[.int .i64 0] 29)) (w.heap.size + 1 + 1) 29 #[.int .i64 0] := Blk.new (by simp)
  have GA : Gr w (((w.alloc (.cells #[.int .i64 b.kind, .int .i64 b.label, .slice a b.kids.length cap] 24)).alloc (.cells #[.int .i64 0, .slice none 0 0] 28)).alloc (.cells #[.int .i64 0] 29)) := (((Gr.refl w).alloc _).alloc _).alloc _
  have c0 := k0.cell (i := 0) (v := .int .i64 b.kind) rfl
  have c1 := k0.cell (i := 1) (v := .int .i64 b.label) rfl
  have c2 := k0.cell (i := 2) (v := .slice a b.kids.length cap) rfl
  have hwr := BlocksWrong_calls n _ b _ (h.gr GA)
  rw [hw] at hwr
  clear hw hf
  go_enter_defers Try.func7, Try.ntmps7
  go_wp2_with fail
  refine hwr.mono ?_
  rintro _ w2 ⟨rfl, g2⟩
  replace k0 := k0.gr g2
  replace k1 := k1.gr g2
  replace k2 := k2.gr g2
  have GZW := GA.trans g2
  replace c0 := k0.cell (i := 0) (v := .int .i64 b.kind) rfl
  replace c1 := k0.cell (i := 1) (v := .int .i64 b.label) rfl
  replace c2 := k0.cell (i := 2) (v := .slice a b.kids.length cap) rfl
  have GB : Gr w2 (w2.alloc (.cells #[.int .i64 2, .slice none 0 0] 56)) := (Gr.refl _).alloc _
  have hG : GW w2 (w2.alloc (.cells #[.int .i64 2, .slice none 0 0] 56)) w2.heap.size (.slice none 0 0) ⟨2, []⟩ := ⟨Blk.new rfl, OwnR.nil _ _ _ _, GB, Nat.le_refl _, by simp [Value.ownBlock]⟩
  have hcall := grow_calls w2 w2.heap.size (n + 1) b a cap _ _ _ 0 1 hok ⟨n, rfl, hB.gr GZW⟩ hG ⟨by simp, by simp, by simp, by simp, by simp, by simp⟩ (by omega) (by simp) (by omega) (by simp)
  replace c0 := cell_gr c0 GB
  replace c1 := cell_gr c1 GB
  replace c2 := cell_gr c2 GB
  rw [HF.out] at hcall
  go_wp2_with fail
  refine hcall.mono ?_
  rintro _ w3 hr
  rcases hr.cases with ⟨s', lv', h1, _⟩ | ⟨_, rfl, g3⟩
  · cases h1
  replace k1 := k1.gr g3
  replace k2 := k2.gr g3
  have GX := GZW.trans g3
  clear hcall hG HF c0 c1 c2 k0 hr
  go_wp2_with fail
  refine leaves_cons (f := 16) (args := #[.pointer (some ⟨w.heap.size + 1, 0, none⟩), .pointer (some ⟨w.heap.size + 1 + 1, 0, none⟩)]) (by simp) (by simp [go_sem]) ?_
  refine (catch_full (w.heap.size + 1) (w.heap.size + 1 + 1) _ _ _ _ k1 k2 (by omega)).mono ?_
  rintro e u' w'' ⟨rfl, rfl, n4, e4, hg⟩
  have r0 := n4.cell (i := 0) (v := .int .i64 0) rfl
  have r1 := n4.cell (i := 1) (v := .slice none 0 0) rfl
  have r2 := e4.cell (i := 0) (v := .int .i64 4) rfl
  refine leaves_ret (.tuple #[.agg #[.int .i64 0, .slice none 0 0], .int .i64 4]) (by simp [results, Try.results7, go_sem, r0, r1, r2]) ?_
  exact RetGN.mk HR.out (zeroNet' _) (hg w GX (by omega) (by omega))
end Go.Proofs.Ytjpapgbdhflgnaa

/- Contract of grow.Grow where the net has room; and the whole. -/
namespace Go.Proofs.Ytjpapgbdhflgnaa
open Go.RowKit Go.Tok
set_option linter.unusedVariables false
def lkF (P : Nat) (l : TranD) : TranD := ⟨l.label, weightsF P l.pre, weightsF P l.post⟩
theorem lk_step {P : Nat} {ls : List TranD} {k : Nat} (h : k < ls.length) : (ls.take (k + 1)).map (lkF P) = (ls.take k).map (lkF P) ++ [lkF P (ix ls k)] := by rw [take_ix h, List.map_append]; rfl
theorem lk_len {P : Nat} {ls : List TranD} {k : Nat} (h : k ≤ ls.length) : ((ls.take k).map (lkF P)).length = k := by rw [List.length_map, List.length_take]; omega
set_option maxHeartbeats 8000000 in
set_option maxRecDepth 100000 in
theorem Grow_good (n : Nat) (v : Value) (b : BlockD) (w : World) (s : GS) (h : BlockR n w v b) (hw : wrongB (n + 1) b = 0) (hf : growF (n + 1) b 0 1 ⟨2, []⟩ = some s) : Calls Try.prog 7 #[v] w (RetGN w (growN (n + 1) b)) := by
  have hok := wrongB_ok h hw
  have ok := grow_ok hok hf
  have HR : Hid (growN (n + 1) b = (netOf s, 0)) := Lib.hid (by unfold growN; rw [if_pos hw, hf])
  have HF := Lib.hid hf
  have T := tranTy
  obtain ⟨_, _, a, cap, rfl, _, _, hB⟩ := h.open_
  have hmf : ∀ (fn : Fn) (first cap : Array Value) (w : World), (Instr.makeFunc fn first cap).run Try.prog w = .ok (.func fn first cap) w := fun _ _ _ _ => rfl
  have k0 : Blk (((w.alloc (.cells #[.int .i64 b.kind, .int .i64 b.label, .slice a b.kids.length cap] 24)).alloc (.cells #[.int .i64 0, .slice none 0 0] 28)).alloc (.cells #[.int .i64 0] 29)) w.heap.size 24 #[.int .i64 b.kind, .int .i64 b.label, .slice a b.kids.length cap] := ((Blk.new rfl).gr ((Gr.refl _).alloc _)).gr ((Gr.refl _).alloc _)
  have k1 : Blk (((w.alloc (.cells #[.int .i64 b.kind, .int .i64 b.label, .slice a b.kids.length cap] 24)).alloc (.cells #[.int .i64 0, .slice none 0 0] 28)).alloc (.cells #[.int .i64 0] 29)) (w.heap.size + 1) 28 #[.int .i64 0, .slice none 0 0] := (Blk.new (by simp)).gr ((Gr.refl _).alloc _)
  have k2 : Blk (((w.alloc (.cells #[.int .i64 b.kind, .int .i64 b.label, .slice a b.kids.length cap] 24)).alloc (.cells #[.int .i64 0, .slice none 0 0] 28)).alloc (.cells #[.int .i64 0] 29)) (w.heap.size + 1 + 1) 29 #[.int .i64 0] := Blk.new (by simp)
  have GA : Gr w (((w.alloc (.cells #[.int .i64 b.kind, .int .i64 b.label, .slice a b.kids.length cap] 24)).alloc (.cells #[.int .i64 0, .slice none 0 0] 28)).alloc (.cells #[.int .i64 0] 29)) := (((Gr.refl w).alloc _).alloc _).alloc _
  have c0 := k0.cell (i := 0) (v := .int .i64 b.kind) rfl
  have c1 := k0.cell (i := 1) (v := .int .i64 b.label) rfl
  have c2 := k0.cell (i := 2) (v := .slice a b.kids.length cap) rfl
  have hwr := BlocksWrong_calls n _ b _ (h.gr GA)
  rw [hw] at hwr
  clear hw hf
  go_enter_defers Try.func7, Try.ntmps7
  go_wp2_with fail
  refine hwr.mono ?_
  rintro _ w2 ⟨rfl, g2⟩
  replace k0 := k0.gr g2
  replace k1 := k1.gr g2
  replace k2 := k2.gr g2
  have GZW := GA.trans g2
  replace c0 := k0.cell (i := 0) (v := .int .i64 b.kind) rfl
  replace c1 := k0.cell (i := 1) (v := .int .i64 b.label) rfl
  replace c2 := k0.cell (i := 2) (v := .slice a b.kids.length cap) rfl
  have GB : Gr w2 (w2.alloc (.cells #[.int .i64 2, .slice none 0 0] 56)) := (Gr.refl _).alloc _
  have hG : GW w2 (w2.alloc (.cells #[.int .i64 2, .slice none 0 0] 56)) w2.heap.size (.slice none 0 0) ⟨2, []⟩ := ⟨Blk.new rfl, OwnR.nil _ _ _ _, GB, Nat.le_refl _, by simp [Value.ownBlock]⟩
  have hcall := grow_calls w2 w2.heap.size (n + 1) b a cap _ _ _ 0 1 hok ⟨n, rfl, hB.gr GZW⟩ hG ⟨by simp, by simp, by simp, by simp, by simp, by simp⟩ (by omega) (by simp) (by omega) (by simp)
  replace c0 := cell_gr c0 GB
  replace c1 := cell_gr c1 GB
  replace c2 := cell_gr c2 GB
  have hnb2 : w.heap.size + 1 + 1 < w2.heap.size := k2.lt
  rw [HF.out] at hcall
  go_wp2_with fail
  refine hcall.mono ?_
  rintro _ w3 hr
  rcases hr.cases with ⟨s', lv, h1, rfl, hg, _⟩ | ⟨h1, _⟩
  case inr => cases h1
  cases h1
  replace k1 := k1.gr hg.gr
  replace k2 := k2.gr hg.gr
  have GX := GZW.trans hg.gr
  clear hcall hG HF c0 c1 c2 k0 hr hwr g2 GA GB
  obtain ⟨pl, ls⟩ := s
  have hlo := ok.lo
  have hhi := ok.hi
  have hlen := ok.len
  simp only [] at hlo hhi hlen
  obtain ⟨P, rfl⟩ := Int.eq_ofNat_of_zero_le (show 0 ≤ pl by omega)
  have hP16 : P ≤ 16 := by omega
  obtain ⟨la, lc, rfl, hl1, hl2⟩ := hg.row.len
  simp only [] at hl1 hl2
  have gk := hg.blk
  have G0 := gk.cell (i := 0) (v := .int .i64 (P : Int)) rfl
  have G1 := gk.cell (i := 1) (v := .slice la ls.length lc) rfl
  have HRow : On (fun x => w2.heap.size ≤ x ∧ x < w3.heap.size) (fun u => Rd trK u (.slice la ls.length lc) ls) w3 := OwnR.on hg.row (fun x hx hs => ⟨hs.1, hx⟩) (fun x e => hg.row.lt e)
  have hgb : w2.heap.size < w3.heap.size := gk.lt
  have C0 := k1.cell (i := 0) (v := .int .i64 0) rfl
  have F0 := k1.frozen 0
  replace k1 := k1.set 0 (.int .i64 (P : Int))
  replace k2 := k2.other (a := ⟨w.heap.size + 1, 0, none⟩) (by simp) (.int .i64 (P : Int))
  replace gk := gk.other (a := ⟨w.heap.size + 1, 0, none⟩) (by simp; omega) (.int .i64 (P : Int))
  replace GX := GX.setCell (p := ⟨w.heap.size + 1, 0, none⟩) (by simp) (.int .i64 (P : Int))
  replace HRow := HRow.kp (set_kp (a := ⟨w.heap.size + 1, 0, none⟩) (fun hx => by have := hx.1; simp at this; omega) (.int .i64 (P : Int)))
  have G0' := gk.cell (i := 0) (v := .int .i64 (P : Int)) rfl
  have G1' := gk.cell (i := 1) (v := .slice la ls.length lc) rfl
  have hsz : (w3.setCell ⟨w.heap.size + 1, 0, none⟩ (.int .i64 (P : Int))).heap.size = w3.heap.size := by simp [World.setCell]
  have HP := Lib.hid (show ∀ i, i < ls.length → PlIn P (ix ls i).pre ∧ PlIn P (ix ls i).post from fun i hi => ⟨ok.pre _ (ix_mem hi), ok.post _ (ix_mem hi)⟩)
  have HS3 := Lib.hid hsz
  clear hg hsz hok
  go_wp2_with fail
  go_loopw [30] (fun i wr => ∃ (k : Nat) (out : Value), i = .int .i64 k ∧ k ≤ ls.length ∧ Blk wr (w.heap.size + 1) 28 #[.int .i64 (P : Int), out] ∧ Blk wr (w.heap.size + 1 + 1) 29 #[.int .i64 0] ∧ Blk wr w2.heap.size 56 #[.int .i64 (P : Int), .slice la ls.length lc] ∧ OwnT 48 w3.heap.size wr out ((ls.take k).map (lkF P)) ∧
    On (fun x => w2.heap.size ≤ x ∧ x < w3.heap.size) (fun u => Rd trK u (.slice la ls.length lc) ls) wr ∧ Gr w wr ∧ w3.heap.size ≤ wr.heap.size) (fun i _ => ls.length - (intOf i).toNat)
  case atStart => exact ⟨0, _, rfl, Nat.zero_le _, k1, k2, gk, OwnT.nil _ _ _, HRow, GX, Nat.le_of_eq HS3.out.symm⟩
  case round =>
    rename World => wr
    obtain ⟨k, out, rfl, hkl, hn, he, hgk, ho, hrow, hgr, hsz⟩ := hrel
    by_cases hlt : k < ls.length
    · obtain ⟨lb, lo, vs, rfl, ⟨p, q, rfl, hlab, hp, hq⟩, hcell⟩ := hrow.now.at_ hlt
      obtain ⟨pa, pc, rfl, hp1, hp2⟩ := hp.len
      obtain ⟨qa, qc, rfl, hq1, hq2⟩ := hq.len
      have l0 : wr.cell? ⟨lb, lo + k * 3, none⟩ = some (.int .i64 (ix ls k).label) := hcell 0 _ rfl
      have l1 : wr.cell? ⟨lb, lo + k * 3 + 1, none⟩ = some (.slice pa (ix ls k).pre.length pc) := hcell 1 _ rfl
      have l2 : wr.cell? ⟨lb, lo + k * 3 + 2, none⟩ = some (.slice qa (ix ls k).post.length qc) := hcell 2 _ rfl
      obtain ⟨oa, oc, hout⟩ := ho.form
      have hl := lk_len (P := P) (Nat.le_of_lt hlt)
      rw [hl] at hout
      subst hout
      have HL := Lib.hid hl
      have hkI : (k : Int) < (ls.length : Int) := by omega
      have hol := ho.lt
      have HOL := Lib.hid hol
      have hPL := HP.out k hlt
      clear hl hol hcell
      go_wp2_with fail
      have bt : Blk (wr.alloc (.cells #[.int .i64 (ix ls k).label, .slice pa (ix ls k).pre.length pc, .slice qa (ix ls k).post.length qc] 59)) wr.heap.size 59 #[.int .i64 (ix ls k).label, .slice pa (ix ls k).pre.length pc, .slice qa (ix ls k).post.length qc] := Blk.new rfl
      have hn' := hn.gr ((Gr.refl _).alloc (.cells #[.int .i64 (ix ls k).label, .slice pa (ix ls k).pre.length pc, .slice qa (ix ls k).post.length qc] 59))
      have hgk' := hgk.gr ((Gr.refl _).alloc (.cells #[.int .i64 (ix ls k).label, .slice pa (ix ls k).pre.length pc, .slice qa (ix ls k).post.length qc] 59))
      have N1 := hn'.cell (i := 1) (v := .slice oa k oc) rfl
      have T0 := bt.cell (i := 0) rfl
      have T1 := bt.cell (i := 1) rfl
      have T2 := bt.cell (i := 2) rfl
      have P0 := hgk'.cell (i := 0) (v := .int .i64 (P : Int)) rfl
      refine wp_region_noPanic ?_
      refine cut22 (S := fun w' => w'.cell? ⟨w.heap.size + 1, 1, none⟩ = some (.slice oa k oc) ∧ w'.cell? ⟨wr.heap.size, 0, none⟩ = some (.int .i64 (ix ls k).label) ∧ w'.cell? ⟨wr.heap.size, 1, none⟩ = some (.slice pa (ix ls k).pre.length pc) ∧ w'.cell? ⟨wr.heap.size, 2, none⟩ = some (.slice qa (ix ls k).post.length qc) ∧ w'.cell? ⟨w2.heap.size, 0, none⟩ = some (.int .i64 (P : Int))) (by kernel_rfl) (by kernel_rfl) ⟨cell_gr N1 (by (repeat (first | exact Gr.refl _ | assumption | apply Gr.alloc | apply Gr.drew | apply Gr.drewN | refine Gr.trans ?_ (by assumption)))), cell_gr T0 (by (repeat (first | exact Gr.refl _ | assumption | apply Gr.alloc | apply Gr.drew | apply Gr.drewN | refine Gr.trans ?_ (by assumption)))), cell_gr T1 (by (repeat (first | exact Gr.refl _ | assumption | apply Gr.alloc | apply Gr.drew | apply Gr.drewN | refine Gr.trans ?_ (by assumption)))), cell_gr T2 (by (repeat (first | exact Gr.refl _ | assumption | apply Gr.alloc | apply Gr.drew | apply Gr.drewN | refine Gr.trans ?_ (by assumption)))), cell_gr P0 (by (repeat (first | exact Gr.refl _ | assumption | apply Gr.alloc | apply Gr.drew | apply Gr.drewN | refine Gr.trans ?_ (by assumption))))⟩ (fun hHeld => ?_)
      (refine hold0 (v := ?_) (by kernel_rfl) (by kernel_rfl) (by kernel_rfl) (fun _ _ _ h => h) (by rfl) (fun w' hSw => ?_) (by assumption) ?_; rotate_left 1; · ((try dsimp only at hSw); (try go_simp); (try (with_reducible rfl))); (try simp only [Act.put, List.setIfInBounds_toArray, List.set_cons_zero, List.set_cons_succ]))
      (refine hold1 (v := ?_) (by kernel_rfl) (by kernel_rfl) (by kernel_rfl) (fun _ _ _ h => h) (by rfl) (fun w' hSw => ?_) (by assumption) ?_; rotate_left 1; · ((try dsimp only at hSw); (try go_simp); (try (with_reducible rfl))); (try simp only [Act.put, List.setIfInBounds_toArray, List.set_cons_zero, List.set_cons_succ]))
      (refine hold2 (v := ?_) (by kernel_rfl) (by kernel_rfl) (by kernel_rfl) (fun _ _ _ h => h) (by rfl) (fun w' hSw => ?_) (by assumption) ?_; rotate_left 1; · ((try dsimp only at hSw); (try go_simp); (try (with_reducible rfl))); (try simp only [Act.put, List.setIfInBounds_toArray, List.set_cons_zero, List.set_cons_succ]))
      (refine hold3 (v := ?_) (by kernel_rfl) (by kernel_rfl) (by kernel_rfl) (fun _ _ _ h => h) (by rfl) (fun w' hSw => ?_) (by assumption) ?_; rotate_left 1; · ((try dsimp only at hSw); (try go_simp); (try (with_reducible rfl))); (try simp only [Act.put, List.setIfInBounds_toArray, List.set_cons_zero, List.set_cons_succ]))
      (refine hold4 (v := ?_) (by kernel_rfl) (by kernel_rfl) (by kernel_rfl) (fun _ _ _ h => h) (by rfl) (fun w' hSw => ?_) (by assumption) ?_; rotate_left 1; · ((try dsimp only at hSw); (try go_simp); (try (with_reducible rfl))); (try simp only [Act.put, List.setIfInBounds_toArray, List.set_cons_zero, List.set_cons_succ]))
      (refine hold5 (v := ?_) (by kernel_rfl) (by kernel_rfl) (by kernel_rfl) (fun _ _ _ h => h) (by rfl) (fun w' hSw => ?_) (by assumption) ?_; rotate_left 1; · ((try dsimp only at hSw); (try go_simp); (try (with_reducible rfl))); (try simp only [Act.put, List.setIfInBounds_toArray, List.set_cons_zero, List.set_cons_succ]))
      (refine hold6 (v := ?_) (by kernel_rfl) (by kernel_rfl) (by kernel_rfl) (fun _ _ _ h => h) (by rfl) (fun w' hSw => ?_) (by assumption) ?_; rotate_left 1; · ((try dsimp only at hSw); (try go_simp); (try (with_reducible rfl))); (try simp only [Act.put, List.setIfInBounds_toArray, List.set_cons_zero, List.set_cons_succ]))
      (refine hold7 (v := ?_) (by kernel_rfl) (by kernel_rfl) (by kernel_rfl) (fun _ _ _ h => h) (by rfl) (fun w' hSw => ?_) (by assumption) ?_; rotate_left 1; · ((try dsimp only at hSw); (try go_simp); (try (with_reducible rfl))); (try simp only [Act.put, List.setIfInBounds_toArray, List.set_cons_zero, List.set_cons_succ]))
      (refine hold8 (v := ?_) (by kernel_rfl) (by kernel_rfl) (by kernel_rfl) (fun _ _ _ h => h) (by rfl) (fun w' hSw => ?_) (by assumption) ?_; rotate_left 1; · ((try dsimp only at hSw); (try go_simp); (try (with_reducible rfl))); (try simp only [Act.put, List.setIfInBounds_toArray, List.set_cons_zero, List.set_cons_succ]))
      (refine hold9 (v := ?_) (by kernel_rfl) (by kernel_rfl) (by kernel_rfl) (fun _ _ _ h => h) (by rfl) (fun w' hSw => ?_) (by assumption) ?_; rotate_left 1; · ((try dsimp only at hSw); (try go_simp); (try (with_reducible rfl))); (try simp only [Act.put, List.setIfInBounds_toArray, List.set_cons_zero, List.set_cons_succ]))
      (refine hold11 (v := ?_) (by kernel_rfl) (by kernel_rfl) (by kernel_rfl) (fun _ _ _ h => h) (by rfl) (fun w' hSw => ?_) (by assumption) ?_; rotate_left 1; · ((try dsimp only at hSw); (try go_simp); (try (with_reducible rfl))); (try simp only [Act.put, List.setIfInBounds_toArray, List.set_cons_zero, List.set_cons_succ]))
      (refine hold12 (v := ?_) (by kernel_rfl) (by kernel_rfl) (by kernel_rfl) (fun _ _ _ h => h) (by rfl) (fun w' hSw => ?_) (by assumption) ?_; rotate_left 1; · ((try dsimp only at hSw); (try go_simp); (try (with_reducible rfl))); (try simp only [Act.put, List.setIfInBounds_toArray, List.set_cons_zero, List.set_cons_succ]))
      (refine hold13 (v := ?_) (by kernel_rfl) (by kernel_rfl) (by kernel_rfl) (fun _ _ _ h => h) (by rfl) (fun w' hSw => ?_) (by assumption) ?_; rotate_left 1; · ((try dsimp only at hSw); (try go_simp); (try (with_reducible rfl))); (try simp only [Act.put, List.setIfInBounds_toArray, List.set_cons_zero, List.set_cons_succ]))
      (refine hold14 (v := ?_) (by kernel_rfl) (by kernel_rfl) (by kernel_rfl) (fun _ _ _ h => h) (by rfl) (fun w' hSw => ?_) (by assumption) ?_; rotate_left 1; · ((try dsimp only at hSw); (try go_simp); (try (with_reducible rfl))); (try simp only [Act.put, List.setIfInBounds_toArray, List.set_cons_zero, List.set_cons_succ]))
      (refine hold15 (v := ?_) (by kernel_rfl) (by kernel_rfl) (by kernel_rfl) (fun _ _ _ h => h) (by rfl) (fun w' hSw => ?_) (by assumption) ?_; rotate_left 1; · ((try dsimp only at hSw); (try go_simp); (try (with_reducible rfl))); (try simp only [Act.put, List.setIfInBounds_toArray, List.set_cons_zero, List.set_cons_succ]))
      (refine hold16 (v := ?_) (by kernel_rfl) (by kernel_rfl) (by kernel_rfl) (fun _ _ _ h => h) (by rfl) (fun w' hSw => ?_) (by assumption) ?_; rotate_left 1; · ((try dsimp only at hSw); (try go_simp); (try (with_reducible rfl))); (try simp only [Act.put, List.setIfInBounds_toArray, List.set_cons_zero, List.set_cons_succ]))
      refine next10 (by kernel_rfl) (fun K hK => ?_)
      go_simp
      refine (weights_calls P _ (ix ls k).pre _ hP16 (hp.gr (by (repeat (first | exact Gr.refl _ | assumption | apply Gr.alloc | apply Gr.drew | apply Gr.drewN | refine Gr.trans ?_ (by assumption))))) hPL.1).mono ?_
      rintro _ w5 ⟨v5, rfl, o5, g5⟩
      obtain ⟨a5, e5, rfl, _, _⟩ := len_is o5 (weights_len P _)
      (refine hK.out _ _ ?_ (fun hHeld => ?_); · (exact ⟨cell_gr N1 (by (repeat (first | exact Gr.refl _ | assumption | apply Gr.alloc | apply Gr.drew | apply Gr.drewN | refine Gr.trans ?_ (by assumption)))), cell_gr T0 (by (repeat (first | exact Gr.refl _ | assumption | apply Gr.alloc | apply Gr.drew | apply Gr.drewN | refine Gr.trans ?_ (by assumption)))), cell_gr T1 (by (repeat (first | exact Gr.refl _ | assumption | apply Gr.alloc | apply Gr.drew | apply Gr.drewN | refine Gr.trans ?_ (by assumption)))), cell_gr T2 (by (repeat (first | exact Gr.refl _ | assumption | apply Gr.alloc | apply Gr.drew | apply Gr.drewN | refine Gr.trans ?_ (by assumption)))), cell_gr P0 (by (repeat (first | exact Gr.refl _ | assumption | apply Gr.alloc | apply Gr.drew | apply Gr.drewN | refine Gr.trans ?_ (by assumption))))⟩))
      clear hK K
      try simp only [Act.put, List.setIfInBounds_toArray, List.set_cons_zero, List.set_cons_succ]
      refine next17 (by kernel_rfl) (fun K hK => ?_)
      go_simp
      refine (weights_calls P _ (ix ls k).post _ hP16 (hq.gr (by (repeat (first | exact Gr.refl _ | assumption | apply Gr.alloc | apply Gr.drew | apply Gr.drewN | refine Gr.trans ?_ (by assumption))))) hPL.2).mono ?_
      rintro _ w6 ⟨v6, rfl, o6, g6⟩
      obtain ⟨a6, e6, rfl, _, _⟩ := len_is o6 (weights_len P _)
      (refine hK.out _ _ ?_ (fun hHeld => ?_); · (exact ⟨cell_gr N1 (by (repeat (first | exact Gr.refl _ | assumption | apply Gr.alloc | apply Gr.drew | apply Gr.drewN | refine Gr.trans ?_ (by assumption)))), cell_gr T0 (by (repeat (first | exact Gr.refl _ | assumption | apply Gr.alloc | apply Gr.drew | apply Gr.drewN | refine Gr.trans ?_ (by assumption)))), cell_gr T1 (by (repeat (first | exact Gr.refl _ | assumption | apply Gr.alloc | apply Gr.drew | apply Gr.drewN | refine Gr.trans ?_ (by assumption)))), cell_gr T2 (by (repeat (first | exact Gr.refl _ | assumption | apply Gr.alloc | apply Gr.drew | apply Gr.drewN | refine Gr.trans ?_ (by assumption)))), cell_gr P0 (by (repeat (first | exact Gr.refl _ | assumption | apply Gr.alloc | apply Gr.drew | apply Gr.drewN | refine Gr.trans ?_ (by assumption))))⟩))
      clear hK K
      try simp only [Act.put, List.setIfInBounds_toArray, List.set_cons_zero, List.set_cons_succ]
      (refine hold18 (v := ?_) (by kernel_rfl) (by kernel_rfl) (by kernel_rfl) (fun _ _ _ h => h) (by rfl) (fun w' hSw => ?_) (by assumption) ?_; rotate_left 1; · ((try dsimp only at hSw); (try go_simp); (try (with_reducible rfl))); (try simp only [Act.put, List.setIfInBounds_toArray, List.set_cons_zero, List.set_cons_succ]))
      refine next19 (by kernel_rfl) (fun K hK => ?_)
      go_simp
      (refine hK.out _ _ ?_ (fun hHeld => ?_); · (exact ⟨cell_gr N1 (by (repeat (first | exact Gr.refl _ | assumption | apply Gr.alloc | apply Gr.drew | apply Gr.drewN | refine Gr.trans ?_ (by assumption)))), cell_gr T0 (by (repeat (first | exact Gr.refl _ | assumption | apply Gr.alloc | apply Gr.drew | apply Gr.drewN | refine Gr.trans ?_ (by assumption)))), cell_gr T1 (by (repeat (first | exact Gr.refl _ | assumption | apply Gr.alloc | apply Gr.drew | apply Gr.drewN | refine Gr.trans ?_ (by assumption)))), cell_gr T2 (by (repeat (first | exact Gr.refl _ | assumption | apply Gr.alloc | apply Gr.drew | apply Gr.drewN | refine Gr.trans ?_ (by assumption)))), cell_gr P0 (by (repeat (first | exact Gr.refl _ | assumption | apply Gr.alloc | apply Gr.drew | apply Gr.drewN | refine Gr.trans ?_ (by assumption))))⟩))
      clear hK K
      try simp only [Act.put, List.setIfInBounds_toArray, List.set_cons_zero, List.set_cons_succ]
      refine next20 (by kernel_rfl) (fun K hK => ?_)
      have h1 := Held.fresh (base := w3.heap.size) (row := (Value.slice oa k oc).ownBlock) o5 (by simp; omega) (fun k' h => by have := (HOL.out k' h).2; simp; omega) g6
      have h2 := Held.fresh (base := w3.heap.size) (row := (Value.slice oa k oc).ownBlock) o6 (by have := (show Gr wr w5 from (by (repeat (first | exact Gr.refl _ | assumption | apply Gr.alloc | apply Gr.drew | apply Gr.drewN | refine Gr.trans ?_ (by assumption))))).le; omega) (fun k' h => by have := (HOL.out k' h).2; have := (show Gr wr w5 from (by (repeat (first | exact Gr.refl _ | assumption | apply Gr.alloc | apply Gr.drew | apply Gr.drewN | refine Gr.trans ?_ (by assumption))))).le; omega) (Gr.refl _)
      refine step_app_tran T (by rfl) _ _ (by rfl) w3.heap.size (.slice oa k oc) ((ls.take k).map (lkF P)) (lkF P (ix ls k)) (.slice a5 P e5) (.slice a6 P e6) ⟨w6.heap.size, 0, none⟩ (by rfl) (by rfl) (ho.gr (by (repeat (first | exact Gr.refl _ | assumption | apply Gr.alloc | apply Gr.drew | apply Gr.drewN | refine Gr.trans ?_ (by assumption))))) hlab (h1.gr (by (repeat (first | exact Gr.refl _ | assumption | apply Gr.alloc | apply Gr.drew | apply Gr.drewN | refine Gr.trans ?_ (by assumption))))) (h2.gr (by (repeat (first | exact Gr.refl _ | assumption | apply Gr.alloc | apply Gr.drew | apply Gr.drewN | refine Gr.trans ?_ (by assumption))))) (World.news_of_block (cs := #[.int .i64 (ix ls k).label, .slice a5 P e5, .slice a6 P e6]) (t := 48) (fr := (0, 0)) (heap_alloc_new w6 _)) rfl rfl (by rw [HL.out]; omega) (Nat.le_trans hsz (Gr.le (by (repeat (first | exact Gr.refl _ | assumption | apply Gr.alloc | apply Gr.drew | apply Gr.drewN | refine Gr.trans ?_ (by assumption)))))) ?_
      intro g cp w7 ho7 hgr7 hat hlt7
      have GQ : Gr wr (w6.alloc (.cells #[.int .i64 (ix ls k).label, .slice a5 P e5, .slice a6 P e6] 48)) := by (repeat (first | exact Gr.refl _ | assumption | apply Gr.alloc | apply Gr.drew | apply Gr.drewN | refine Gr.trans ?_ (by assumption)))
      have hb7 := (hn.gr GQ).grown hgr7 (fun e => by have := (HOL.out _ e.symm).1; omega)
      have he7 := (he.gr GQ).grown hgr7 (fun e => by have := (HOL.out _ e.symm).1; omega)
      have hk7 := (hgk.gr GQ).grown hgr7 (fun e => by have := (HOL.out _ e.symm).1; omega)
      have bt7 := (bt.gr (show Gr _ (w6.alloc (.cells #[.int .i64 (ix ls k).label, .slice a5 P e5, .slice a6 P e6] 48)) from (by (repeat (first | exact Gr.refl _ | assumption | apply Gr.alloc | apply Gr.drew | apply Gr.drewN | refine Gr.trans ?_ (by assumption)))))).grown hgr7 (fun e => by have := (HOL.out _ e.symm).2; omega)
      have n1 := hb7.cell (i := 1) (v := .slice oa k oc) rfl
      have kf := hb7.frozen 1
      have t0 := bt7.cell (i := 0) rfl
      have t1 := bt7.cell (i := 1) rfl
      have t2 := bt7.cell (i := 2) rfl
      have p0 := hk7.cell (i := 0) (v := .int .i64 (P : Int)) rfl
      rw [HL.out] at ho7 ⊢
      (refine hK.out _ _ ?_ (fun hHeld => ?_); · (exact ⟨n1, t0, t1, t2, p0⟩))
      clear hK K
      try simp only [Act.put, List.setIfInBounds_toArray, List.set_cons_zero, List.set_cons_succ]
      (refine hold21 (v := ?_) (by kernel_rfl) (by kernel_rfl) (by kernel_rfl) (fun _ _ _ h => h) (by rfl) (fun w' hSw => ?_) (by assumption) ?_; rotate_left 1; · ((try dsimp only at hSw); (try go_simp); (try (with_reducible rfl))); (try simp only [Act.put, List.setIfInBounds_toArray, List.set_cons_zero, List.set_cons_succ]))
      refine ends22 (by kernel_rfl) (fun K hK => ?_)
      go_simp
      refine hK.out _ _ ?_
      refine NoPanic.normal ?_
      have hnb3 : w.heap.size + 1 < w3.heap.size := by omega
      have hrow7 := (hrow.gr GQ).kp (grown_kp hgr7 fun x hs e => by have := (HOL.out _ e.symm).1; have := hs.2; omega)
      have hg7 : Gr w w7 := Gr.grown (hgr.trans GQ) hgr7 (fun k' h => by have := (HOL.out k' h).1; have := hgr.le; omega)
      have hs7 : w3.heap.size ≤ w7.heap.size := Nat.le_trans hsz (Nat.le_trans GQ.le hgr7.size)
      go_wp2_with fail
      refine ⟨⟨k + 1, _, by go_num, by omega, hb7.set 1 _, he7.other (by simp) _, hk7.other (by simp; omega) _, ?_, hrow7.kp (set_kp (fun hx => by have := hx.1; simp at this; omega) _), hg7.setCell (by simp) _, by simpa [World.setCell] using hs7⟩, by simp [intOf]; omega⟩
      rw [lk_step hlt]
      exact ho7.other (by simp; omega) _
    · obtain rfl : k = ls.length := by omega
      obtain ⟨oa, oc, hout⟩ := ho.form
      rw [lk_len (Nat.le_refl _)] at hout
      subst hout
      have hT := ho.trans
      have n0 := hn.cell (i := 0) (v := .int .i64 (P : Int)) rfl
      have n1 := hn.cell (i := 1) (v := .slice oa ls.length oc) rfl
      have f0 := hn.frozen 0
      have ka := hn.set 0 (.int .i64 (P : Int))
      have na1 := ka.cell (i := 1) (v := .slice oa ls.length oc) rfl
      have f1 := ka.frozen 1
      have kb := ka.set 1 (.slice oa ls.length oc)
      have ea := he.other (a := ⟨w.heap.size + 1, 0, none⟩) (by simp) (.int .i64 (P : Int))
      have eb := ea.other (a := ⟨w.heap.size + 1, 1, none⟩) (by simp) (.slice oa ls.length oc)
      have e0 := eb.cell (i := 0) (v := .int .i64 0) rfl
      have fe := eb.frozen 0
      have kc := kb.other (a := ⟨w.heap.size + 1 + 1, 0, none⟩) (by simp) (.int .i64 0)
      have ec := eb.set 0 (.int .i64 0)
      have r0 := kc.cell (i := 0) (v := .int .i64 (P : Int)) rfl
      have r1 := kc.cell (i := 1) (v := .slice oa ls.length oc) rfl
      have r2 := ec.cell (i := 0) (v := .int .i64 0) rfl
      have GZ := ((hgr.setCell (p := ⟨w.heap.size + 1, 0, none⟩) (by simp) (.int .i64 (P : Int))).setCell (p := ⟨w.heap.size + 1, 1, none⟩) (by simp) (.slice oa ls.length oc)).setCell (p := ⟨w.heap.size + 1 + 1, 0, none⟩) (by simp; omega) (.int .i64 0)
      have ob := ((ho.other (a := ⟨w.heap.size + 1, 0, none⟩) (by simp; omega) (.int .i64 (P : Int))).other (a := ⟨w.heap.size + 1, 1, none⟩) (by simp; omega) (.slice oa ls.length oc)).other (a := ⟨w.heap.size + 1 + 1, 0, none⟩) (by simp; omega) (.int .i64 0)
      clear ka kb ea eb kc ec hn he hgk hT ho hrow k1 k2 gk G0 G1 G0' G1' HRow
      go_wp2_with fail
      refine leaves_cons (f := 16) (args := #[.pointer (some ⟨w.heap.size + 1, 0, none⟩), .pointer (some ⟨w.heap.size + 1 + 1, 0, none⟩)]) (by simp) (by simp [go_sem]) ?_
      refine (catch_idle (w.heap.size + 1) (w.heap.size + 1 + 1) _).mono ?_
      rintro e u' w'' ⟨rfl, rfl, rfl⟩
      refine leaves_ret (.tuple #[.agg #[.int .i64 (P : Int), .slice oa ls.length oc], .int .i64 0]) (by simp [results, Try.results7, go_sem, r0, r1, r2]) ?_
      refine RetGN.mk HR.out ?_ GZ
      have hnet : netOf ⟨(P : Int), ls⟩ = ⟨(P : Int), (ls.take ls.length).map (lkF P)⟩ := by
        rw [List.take_length]; rfl
      rw [hnet]
      exact NetR.mk_ (N := ⟨(P : Int), (ls.take ls.length).map (lkF P)⟩) ob.trans (show I64 (P : Int) by unfold I64; omega)
theorem Grow_calls (n : Nat) (v : Value) (b : BlockD) (w : World) (h : BlockR n w v b) : Calls Try.prog 7 #[v] w (RetGN w (growN (n + 1) b)) := by
  by_cases hw : wrongB (n + 1) b = 0
  · cases hf : growF (n + 1) b 0 1 ⟨2, []⟩ with
    | none => exact Grow_full n v b w h hw hf
    | some s => exact Grow_good n v b w s h hw hf
  · exact Grow_bad n v b w h hw
end Go.Proofs.Ytjpapgbdhflgnaa
