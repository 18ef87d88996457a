/- A range over a function whose iterator keeps state in a cell that it captured: the contract of such an iterator (SeqS) and the law of the statement. No program is in sight here. -/
import Derived.RangeFuncNested
import Derived.Test.YtkanaoebpajbfaaPA
namespace Go.Tok
open Go.RowKit
set_option linter.unusedVariables false
variable {F : Fence} {n : Nat} {P : Program}
/-- the blocks of S stand as they stood; so does whatever lies outside the heap -/
def KpB (S : Nat → Prop) (A B : World) : Prop := B.os = A.os ∧ B.tape = A.tape ∧ B.output = A.output ∧ Kp S A B
theorem KpB.kp {S : Nat → Prop} {A B : World} (h : KpB S A B) : Kp S A B := h.2.2.2
theorem KpB.refl (S : Nat → Prop) (A : World) : KpB S A A := ⟨rfl, rfl, rfl, Kp.refl _ _⟩
theorem KpB.trans {S : Nat → Prop} {A B C : World} (h : KpB S A B) (k : KpB S B C) : KpB S A C := ⟨k.1.trans h.1, k.2.1.trans h.2.1, k.2.2.1.trans h.2.2.1, h.kp.trans k.kp⟩
theorem KpB.mono {S S' : Nat → Prop} {A B : World} (h : KpB S A B) (hs : ∀ b, b < A.heap.size → S' b → S b) : KpB S' A B := ⟨h.1, h.2.1, h.2.2.1, h.kp.mono hs⟩
theorem Gr.kpb {S : Nat → Prop} {A B : World} (g : Gr A B) : KpB S A B := ⟨g.below.os, g.below.tape, g.below.output, g.kp⟩
theorem put_kpb {S : Nat → Prop} {W : World} {l : Nat} (o : Obj) (h : ¬ S l) : KpB S W (W.putObj l o) := ⟨rfl, rfl, rfl, grown_kp (grownBy_putObj' W l o) fun b hs e => h (by cases e; exact hs)⟩
theorem set_kpb {S : Nat → Prop} {W : World} {a : Addr} (u : Value) (h : ¬ S a.block) : KpB S W (W.setCell a u) := ⟨rfl, rfl, rfl, set_kp h u⟩
theorem Kp.block {S : Nat → Prop} {A B : World} (k : Kp S A B) {b : Nat} (h : b < A.heap.size) (hs : S b) : B.heap[b]? = A.heap[b]? := by
  unfold Kp at k; exact k.2 b h hs
theorem Kp.size {S : Nat → Prop} {A B : World} (k : Kp S A B) : A.heap.size ≤ B.heap.size := by
  unfold Kp at k; exact k.1
theorem Gr.kpb_on {S : Nat → Prop} {a A B : World} (g : Gr a A) (k : KpB S A B) (h : ∀ b, b < a.heap.size → S b) : Gr a B := by
  have hg := g.below
  unfold Gr
  exact ⟨k.1.trans hg.os, k.2.1.trans hg.tape, k.2.2.1.trans hg.output, Nat.le_trans hg.size k.kp.size, fun b hb => (k.kp.block (Nat.lt_of_lt_of_le hb hg.size) (h b hb)).trans (hg.block b hb)⟩
/-- the iterator g (captured: lb), from world w on: it writes block kb alone; R: the blocks that it reads; S: all have come; Sp: a part has come -/
def SeqS {α : Type} (F : Fence) (n : Nat) (P : Program) (g : Nat) (lb : Array Value) (encs : α → Array Value) (R : Nat → Prop) (kb : Nat) (S Sp : List α → Prop) (w : World) : Prop :=
  ∀ (l : Nat) (J Jx : List α → World → Prop) (W : World), Kp (fun b => b < w.heap.size) w W → (∀ s A B, J s A → KpB (fun b => b ≠ kb) A B → J s B) → (∀ s A B, Jx s A → KpB (fun b => b ≠ kb) A B → Jx s B) →
    (∀ pre x W1, J pre W1 → Sp (pre ++ [x]) → YieldAt F (n - 1) P l (encs x) W1 fun e W' =>
      (e = .returned (.bool true) ∧ J (pre ++ [x]) W' ∧ Kp R W1 W') ∨ (e = .returned (.bool false) ∧ Jx (pre ++ [x]) W')) →
    J [] W →
    CallsIn F n P g (#[.func (.yield l) #[] #[]] ++ lb) W fun e W' => (∃ v, e = .returned v) ∧ ((∃ xs, S xs ∧ J xs W') ∨ (∃ pre, Sp pre ∧ Jx pre W'))
/-- how a round may be left -/
def postS {α : Type} (B : Nat) (R : Nat → Prop) (I : List α → World → Prop) (Ix : Code → List α → World → Prop) (xs : List α) (W : World) : Exit → Act → World → Prop
  | .normal, _, W' => KeepsFrom B W W' ∧ Kp R W W' ∧ I xs W'
  | .ret, _, W' => KeepsFrom B W W' ∧ Ix .ret xs W'
  | .exit id, _, W' => KeepsFrom B W W' ∧ Ix (.exit id) xs W'
  | .goto t, _, W' => KeepsFrom B W W' ∧ Ix (.goto t) xs W'
  | .panic _, _, _ => False
  | .outgrown, _, _ => False
theorem wpIn_rangeFunc_S {α : Type} {g : Operand} {ps : Array Tmp} {assign body : Code} {Q : Exit → Act → World → Prop} {a : Act} {w : World}
    (hro : F.round = none) (h1 : 1 ≤ n) {gf : Nat} {lb : Array Value} (hg : a.eval g = .func (.func gf) #[] lb) (hFg : F.fn gf) (eg : ∀ args w, (callFunc gf args).run P w = .ok (.enter gf args) w)
    {encs : α → Array Value} {R : Nat → Prop} {kb : Nat} {S Sp : List α → Prop} (hR : ∀ b, R b → b < w.heap.size) (hkb : kb < w.heap.size) (hseq : SeqS F (n - 1) P gf lb encs R kb S Sp w) (hps : ∀ x, (encs x).size = ps.size)
    (I : List α → World → Prop) (Ix : Code → List α → World → Prop) (hI : ∀ s A B, I s A → KpB (fun b => b < w.heap.size ∧ b ≠ kb) A B → I s B) (hIx : ∀ c s A B, Ix c s A → KpB (fun b => b < w.heap.size ∧ b ≠ kb) A B → Ix c s B) (h0 : I [] w) (a₁ : α → Act)
    (hassign : ∀ (l : Nat) (x : α) (W : World) (K : Act → World → Prop), K (a₁ x) W →
      assign.wpIn (F.inRound l) (n - 1 - 1) P (Exit.then K (fun _ _ _ => False)) { tmps := (ps.zip (encs x)).foldl (fun t (p, v) => t.setIfInBounds p v) a.tmps, defers := [] } W)
    (hbody : ∀ (l : Nat) (pre : List α) (x : α) (W : World), w.heap.size ≤ W.heap.size → I pre W → Sp (pre ++ [x]) → body.wpIn (F.inRound l) (n - 1 - 1) P (postS w.heap.size R I Ix (pre ++ [x]) W) (a₁ x) W)
    (hdone : ∀ (D : Nat) (xs : List α) (W : World), w.heap.size ≤ D → S xs → I xs W → W.heap[D]? = some (.deferred (some [])) → Q .normal { a with defers := { target := .collected D, args := #[] } :: a.defers } W)
    (hstop : ∀ (D : Nat) (c : Code) (pre : List α) (W : World), w.heap.size ≤ D → Sp pre → Ix c pre W → W.heap[D]? = some (.deferred (some [])) → c.wpIn F n P Q { a with defers := { target := .collected D, args := #[] } :: a.defers } W) :
    (Code.rangeFunc g ps assign body).wpIn F n P Q a w := by
  refine wpIn_rangeFunc fun fn hfn => ?_
  rw [hro]
  obtain ⟨rec, hrec⟩ : ∃ rec : LoopState → Option Code → Loop, rec = fun st pe => { state := st, pending := pe, fn, tmps := a.tmps, params := ps, assign, body, defers := w.heap.size } := ⟨_, rfl⟩
  obtain ⟨W1, hW1⟩ : ∃ W1, (w.alloc (.deferred (some []))).alloc (.loop (rec .ready none)) = W1 := ⟨_, rfl⟩
  have hG : Gr w W1 := by rw [← hW1]; exact ((Gr.refl w).alloc _).alloc _
  have hL1 : W1.heap[w.heap.size + 1]? = some (.loop (rec .ready none)) := by
    rw [← hW1]; have := World.alloc_heap_new (w.alloc (.deferred (some []))) (.loop (rec .ready none)); rwa [World.size_alloc] at this
  have hD1 : W1.heap[w.heap.size]? = some (.deferred (some [])) := by
    rw [← hW1]; exact (Below.heap_alloc _ _ _ (by simp)).trans (World.alloc_heap_new w _)
  have put : ∀ {s W} (o : Obj), I s W → I s (W.putObj (w.heap.size + 1) o) := fun o h => hI _ _ _ h (put_kpb o (fun h => by omega))
  have putx : ∀ {c s W} (o : Obj), Ix c s W → Ix c s (W.putObj (w.heap.size + 1) o) := fun o h => hIx _ _ _ _ h (put_kpb o (fun h => by omega))
  have putR : ∀ {W : World} (o : Obj), Kp R W (W.putObj (w.heap.size + 1) o) := fun o => (put_kpb o (fun h => by have := hR _ h; omega)).kp
  have held : ∀ {A B : World} {b : Nat} {o : Obj}, b ≠ kb → A.heap[b]? = some o → KpB (fun b => b ≠ kb) A B → B.heap[b]? = some o := fun hb h k => (k.kp.block (Array.getElem?_eq_some_iff.1 h).1 hb).trans h
  refine ⟨w.heap.size + 1, [{ target := .collected w.heap.size, args := #[] }], W1, { target := .fn (.func gf) lb, args := #[.func (.yield (w.heap.size + 1)) #[] #[]] }, W1, gf,
    #[.func (.yield (w.heap.size + 1)) #[] #[]] ++ lb, W1, ?_, ?_, ?_, ?_, fun _ => h1, ?_⟩
  · rw [← hW1, hrec]; exact run_enterLoop_outer _ _ _ _ _
  · simp only [resolve, hg]
    simp [go_sem]
  · intro f' hf'; simp [Target.leads] at hf'; subst hf'; exact hFg
  · simp [invoke, go_sem, eg]
  refine (hseq (w.heap.size + 1)
    (fun pre W => I pre W ∧ W.heap[w.heap.size + 1]? = some (.loop (rec .ready none)) ∧ W.heap[w.heap.size]? = some (.deferred (some [])))
    (fun pre W => ∃ c, Ix c pre W ∧ W.heap[w.heap.size + 1]? = some (.loop (rec .done (some c))) ∧ W.heap[w.heap.size]? = some (.deferred (some [])))
    W1 hG.kp
    (fun s A B h k => ⟨hI s A B h.1 (k.mono fun b _ hb => hb.2), held (by omega) h.2.1 k, held (by omega) h.2.2 k⟩)
    (fun s A B h k => by
      obtain ⟨c, hc, hl, hd⟩ := h
      exact ⟨c, hIx c s A B hc (k.mono fun b _ hb => hb.2), held (by omega) hl k, held (by omega) hd k⟩)
    ?_ ⟨hI _ _ _ h0 hG.kpb, hL1, hD1⟩).mono ?_
  · rintro pre x W ⟨hi, hl, hd⟩ hsp
    have hlt : w.heap.size + 1 < W.heap.size := (Array.getElem?_eq_some_iff.1 hl).1
    have hy := run_yield (P := P) (args := encs x) hl (by rw [hrec]; exact hps x)
    rw [hrec] at hy
    refine ⟨fn, _, assign, body, hy, roundIn_of_wpIn hfn (hassign _ x W _ ⟨_, run_beginRound hl (by rw [hrec]), ?_⟩)⟩
    clear hy
    obtain ⟨W2, hW2⟩ : ∃ W2, W.putObj (w.heap.size + 1) (.loop { rec .ready none with state := .busy }) = W2 := ⟨_, rfl⟩
    rw [hW2]
    have hl2 : W2.heap[w.heap.size + 1]? = some (.loop { rec .ready none with state := .busy }) := by rw [← hW2]; exact World.putObj_heap_same hlt
    have hd2 : W2.heap[w.heap.size]? = some (.deferred (some [])) := by rw [← hW2]; exact (World.putObj_heap_other (by omega)).trans hd
    have hr2 : Kp R W W2 := by rw [← hW2]; exact putR _
    have hi2 : I pre W2 := by rw [← hW2]; exact put _ hi
    have hs2 : w.heap.size ≤ W2.heap.size := by have := (Array.getElem?_eq_some_iff.1 hd2).1; omega
    refine wpIn_mono (hbody _ pre x _ hs2 hi2 hsp) ?_
    have fin : ∀ (jump : Option Code) (W3 : World), KeepsFrom w.heap.size W2 W3 →
        (Instr.endRound (w.heap.size + 1) jump).run P W3 = .ok (.bool jump.isNone) (W3.putObj (w.heap.size + 1) (.loop (rec (if jump.isNone then .ready else .done) jump))) ∧
        (W3.putObj (w.heap.size + 1) (.loop (rec (if jump.isNone then .ready else .done) jump))).heap[w.heap.size + 1]? = some (.loop (rec (if jump.isNone then .ready else .done) jump)) ∧
        (W3.putObj (w.heap.size + 1) (.loop (rec (if jump.isNone then .ready else .done) jump))).heap[w.heap.size]? = some (.deferred (some [])) := fun jump W3 hk3 => by
      have hl3 := hk3.same _ _ (by omega) hl2 rfl
      have hr3 := run_endRound (P := P) jump hl3
      rw [hrec] at hr3 ⊢
      exact ⟨hr3, World.putObj_heap_same (Array.getElem?_eq_some_iff.1 hl3).1, (World.putObj_heap_other (by omega)).trans (hk3.same _ _ (Nat.le_refl _) hd2 rfl)⟩
    rintro e a3 W3 hp
    cases e with
    | normal =>
      obtain ⟨hk3, hr3, hi3⟩ := hp
      obtain ⟨hrun, hl4, hd4⟩ := fin none W3 hk3
      exact ⟨_, _, hrun, .inl ⟨rfl, ⟨put _ hi3, hl4, hd4⟩, (hr2.trans hr3).trans (putR _)⟩⟩
    | ret =>
      obtain ⟨hk3, hi3⟩ := hp
      obtain ⟨hrun, hl4, hd4⟩ := fin (some .ret) W3 hk3
      exact ⟨_, _, hrun, .inr ⟨rfl, .ret, putx _ hi3, hl4, hd4⟩⟩
    | exit id =>
      obtain ⟨hk3, hi3⟩ := hp
      obtain ⟨hrun, hl4, hd4⟩ := fin (some (.exit id)) W3 hk3
      exact ⟨_, _, hrun, .inr ⟨rfl, .exit id, putx _ hi3, hl4, hd4⟩⟩
    | goto t =>
      obtain ⟨hk3, hi3⟩ := hp
      obtain ⟨hrun, hl4, hd4⟩ := fin (some (.goto t)) W3 hk3
      exact ⟨_, _, hrun, .inr ⟨rfl, .goto t, putx _ hi3, hl4, hd4⟩⟩
    | panic ch => exact hp.elim
    | outgrown => exact hp.elim
  · rintro e W2 ⟨⟨v, rfl⟩, (⟨xs, hS, hi, hl, hd⟩ | ⟨pre, hSp, c, hi, hl, hd⟩)⟩
    · exact ⟨none, _, by have h := run_endLoop (P := P) hl (by rw [hrec]; simp); rw [hrec] at h; exact h, hdone _ xs _ (Nat.le_refl _) hS (put _ hi) ((World.putObj_heap_other (by omega)).trans hd)⟩
    · exact ⟨some c, _, by have h := run_endLoop (P := P) hl (by rw [hrec]; simp); rw [hrec] at h; exact h, hstop _ c pre _ (Nat.le_refl _) hSp (putx _ hi) ((World.putObj_heap_other (by omega)).trans hd)⟩
end Go.Tok
