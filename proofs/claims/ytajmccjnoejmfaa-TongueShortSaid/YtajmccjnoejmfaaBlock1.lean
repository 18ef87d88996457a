/- Contract of the check that blocks.Wrong hands to itself, and of blocks.Wrong. -/
import Derived.Test.YtajmccjnoejmfaaGrow2
namespace Go.Proofs.Ytajmccjnoejmfaa
open Go.RowKit Go.Tok
set_option linter.unusedVariables false
/-- c blocks were counted, in the cell at nb; the check itself lies at vb -/
structure EnvC (w0 : World) (nb vb : Nat) (c : Nat) (w : World) : Prop where
  num : Blk w nb 3 #[.int .i64 (c : Int)]
  fn : w.cell? ⟨vb, 0, none⟩ = some (.func (.func 54) #[] #[.pointer (some ⟨nb, 0, none⟩), .pointer (some ⟨vb, 0, none⟩)])
  gr : Gr w0 w
  lo : w0.heap.size ≤ nb
  ne : vb ≠ nb
theorem EnvC.gr' {w0 w w' : World} {nb vb c : Nat} (h : EnvC w0 nb vb c w) (g : Gr w w') : EnvC w0 nb vb c w' := ⟨h.num.gr g, cell_gr h.fn g, h.gr.trans g, h.lo, h.ne⟩
theorem EnvC.put {w0 w : World} {nb vb c : Nat} (h : EnvC w0 nb vb c w) : EnvC w0 nb vb (c + 1) (w.setCell ⟨nb, 0, none⟩ (.int .i64 ((c : Int) + 1))) := by
  refine ⟨?_, ?_, h.gr.setCell h.lo _, h.lo, h.ne⟩
  · have := h.num.set 0 (.int .i64 ((c : Int) + 1))
    simpa using this
  · rw [World.cell?_of_block (Below.heap_setCell w ⟨nb, 0, none⟩ _ vb h.ne)]
    exact h.fn
def RetC (w0 : World) (nb vb : Nat) (r : Nat × Int) (e : Ending) (w' : World) : Prop := e = .returned (.int .i64 r.2) ∧ EnvC w0 nb vb r.1 w'
theorem RetC.mk {w0 w' : World} {nb vb c : Nat} {x : Int} {r : Nat × Int} (h : r = (c, x)) (k : EnvC w0 nb vb c w') : RetC w0 nb vb r (.returned (.int .i64 x)) w' := by subst h; exact ⟨rfl, k⟩
theorem RetC.out {w0 w' : World} {nb vb : Nat} {r : Nat × Int} {e : Ending} (h : RetC w0 nb vb r e w') : e = .returned (.int .i64 r.2) ∧ EnvC w0 nb vb r.1 w' := h
attribute [irreducible] RetC
theorem checkL_le {f : BlockD → Nat → Nat × Int} (hf : ∀ k c, c ≤ 40 → (f k c).1 ≤ 41 ∧ ((f k c).2 = 0 → (f k c).1 ≤ 40)) : ∀ (ks : List BlockD) (c : Nat), c ≤ 40 → (checkL f ks c).1 ≤ 41 ∧ ((checkL f ks c).2 = 0 → (checkL f ks c).1 ≤ 40) := by
  intro ks
  induction ks with
  | nil => intro c h; simp only [checkL]; exact ⟨by omega, fun _ => h⟩
  | cons k r ih =>
    intro c h
    unfold checkL
    split
    · rename_i h0
      exact ih _ ((hf k c h).2 h0)
    · exact hf k c h
theorem check_le : ∀ (n : Nat) (b : BlockD) (c : Nat), c ≤ 40 → (checkF n b c).1 ≤ 41 ∧ ((checkF n b c).2 = 0 → (checkF n b c).1 ≤ 40) := by
  intro n
  induction n with
  | zero => intro b c h; simp only [checkF]; exact ⟨by omega, fun e => absurd e (show ¬ ((4 : Int) = 0) by decide)⟩
  | succ n ih =>
    intro b c h
    unfold checkF
    split
    · exact ⟨by omega, fun e => absurd e (show ¬ ((4 : Int) = 0) by decide)⟩
    · split
      · exact checkL_le ih _ _ (by omega)
      · rename_i h1 h2
        exact ⟨by omega, fun e => absurd e h2⟩
def CheckC (w0 : World) (nb vb n : Nat) : Prop := ∀ (b : BlockD) (a : Option Addr) (cap : Nat) (w : World) (c : Nat), KidsR n w0 (.slice a b.kids.length cap) b → EnvC w0 nb vb c w → c ≤ 40 →
  Calls Try.prog 54 #[.agg #[.int .i64 b.kind, .int .i64 b.label, .slice a b.kids.length cap], .pointer (some ⟨nb, 0, none⟩), .pointer (some ⟨vb, 0, none⟩)] w (RetC w0 nb vb (checkF n b c))
theorem check_bad {n : Nat} {b : BlockD} {c : Nat} {x : Int} (hc : ¬ 40 < c + 1) (h : formF b = x) (hx : x ≠ 0) : checkF (n + 1) b c = (c + 1, x) := by
  subst h
  unfold checkF
  rw [if_neg hc, if_neg hx]
theorem form_kind {b : BlockD} (h : b.kind < 1 ∨ 6 < b.kind) : formF b = 5 := by unfold formF; rw [if_pos h]
theorem form_label {b : BlockD} (h1 : b.kind = 2) (h : b.label < 1 ∨ 26 < b.label) : formF b = 2 := by unfold formF; rw [if_neg (by omega), if_pos ⟨h1, h⟩]
theorem form_kids {b : BlockD} (h1 : ¬ (b.kind < 1 ∨ 6 < b.kind)) (h2 : ¬ (b.kind = 2 ∧ (b.label < 1 ∨ 26 < b.label))) (h : b.kind < 3 ∧ 0 < b.kids.length ∨ 3 ≤ b.kind ∧ b.kids.length = 0 ∨ b.kind = 6 ∧ b.kids.length ≠ 2) : formF b = 1 := by unfold formF; rw [if_neg h1, if_neg h2, if_pos h]
theorem form_good {b : BlockD} (h1 : ¬ (b.kind < 1 ∨ 6 < b.kind)) (h2 : ¬ (b.kind = 2 ∧ (b.label < 1 ∨ 26 < b.label))) (h : ¬ (b.kind < 3 ∧ 0 < b.kids.length ∨ 3 ≤ b.kind ∧ b.kids.length = 0 ∨ b.kind = 6 ∧ b.kids.length ≠ 2)) : formF b = 0 := by unfold formF; rw [if_neg h1, if_neg h2, if_neg h]
set_option maxHeartbeats 4000000 in
set_option maxRecDepth 100000 in
theorem check_full {w0 : World} {nb vb n : Nat} {b : BlockD} {a : Option Addr} {cap : Nat} {w : World} {c : Nat} (h : EnvC w0 nb vb c w) (hc : c ≤ 40) (h40 : 40 < c + 1) : Calls Try.prog 54 #[.agg #[.int .i64 b.kind, .int .i64 b.label, .slice a b.kids.length cap], .pointer (some ⟨nb, 0, none⟩), .pointer (some ⟨vb, 0, none⟩)] w (RetC w0 nb vb (checkF (n + 1) b c)) := by
  have hF : checkF (n + 1) b c = (c + 1, 4) := by unfold checkF; rw [if_pos h40]
  have HF := Lib.hid hF
  have hI : (40 : Int) < (c : Int) + 1 := by omega
  clear hF
  have GB := (Gr.refl w).alloc (.cells #[.int .i64 b.kind, .int .i64 b.label, .slice a b.kids.length cap] 24)
  have b0 : (w.alloc (.cells #[.int .i64 b.kind, .int .i64 b.label, .slice a b.kids.length cap] 24)).cell? ⟨w.heap.size, 0, none⟩ = some (.int .i64 b.kind) := box_cell (Gr.refl _) (i := 0) rfl
  have b1 : (w.alloc (.cells #[.int .i64 b.kind, .int .i64 b.label, .slice a b.kids.length cap] 24)).cell? ⟨w.heap.size, 1, none⟩ = some (.int .i64 b.label) := box_cell (Gr.refl _) (i := 1) rfl
  have b2 : (w.alloc (.cells #[.int .i64 b.kind, .int .i64 b.label, .slice a b.kids.length cap] 24)).cell? ⟨w.heap.size, 2, none⟩ = some (.slice a b.kids.length cap) := box_cell (Gr.refl _) (i := 2) rfl
  have E1 := h.gr' GB
  have n0 := E1.num.cell (i := 0) (v := .int .i64 (c : Int)) rfl
  have f0 := E1.num.frozen 0
  have E2 := E1.put
  have n1 := E2.num.cell (i := 0) (v := .int .i64 ((c + 1 : Nat) : Int)) rfl
  have ecast : ((c + 1 : Nat) : Int) = (c : Int) + 1 := by omega
  rw [ecast] at n1
  have hlt := h.num.lt
  have hbn : w.heap.size ≠ nb := by omega
  have k0 : ((w.alloc (.cells #[.int .i64 b.kind, .int .i64 b.label, .slice a b.kids.length cap] 24)).setCell ⟨nb, 0, none⟩ (.int .i64 ((c : Int) + 1))).cell? ⟨w.heap.size, 0, none⟩ = some (.int .i64 b.kind) := (World.cell?_of_block (Below.heap_setCell _ ⟨nb, 0, none⟩ _ w.heap.size hbn)).trans b0
  have k1 : ((w.alloc (.cells #[.int .i64 b.kind, .int .i64 b.label, .slice a b.kids.length cap] 24)).setCell ⟨nb, 0, none⟩ (.int .i64 ((c : Int) + 1))).cell? ⟨w.heap.size, 1, none⟩ = some (.int .i64 b.label) := (World.cell?_of_block (Below.heap_setCell _ ⟨nb, 0, none⟩ _ w.heap.size hbn)).trans b1
  have k2 : ((w.alloc (.cells #[.int .i64 b.kind, .int .i64 b.label, .slice a b.kids.length cap] 24)).setCell ⟨nb, 0, none⟩ (.int .i64 ((c : Int) + 1))).cell? ⟨w.heap.size, 2, none⟩ = some (.slice a b.kids.length cap) := (World.cell?_of_block (Below.heap_setCell _ ⟨nb, 0, none⟩ _ w.heap.size hbn)).trans b2
  clear b0 b1 b2 ecast hlt hbn
  go_enter Try.func54, Try.ntmps54
  go_wp2_with fail
  go_ret
  exact RetC.mk HF.out E2
set_option maxHeartbeats 4000000 in
set_option maxRecDepth 100000 in
theorem check_low {w0 : World} {nb vb n : Nat} {b : BlockD} {a : Option Addr} {cap : Nat} {w : World} {c : Nat} (h : EnvC w0 nb vb c w) (hc : c ≤ 40) (h40 : ¬ 40 < c + 1) (hk : b.kind < 1) : Calls Try.prog 54 #[.agg #[.int .i64 b.kind, .int .i64 b.label, .slice a b.kids.length cap], .pointer (some ⟨nb, 0, none⟩), .pointer (some ⟨vb, 0, none⟩)] w (RetC w0 nb vb (checkF (n + 1) b c)) := by
  have HF := Lib.hid (check_bad (n := n) h40 (form_kind (.inl hk)) (by decide))
  have hI : ¬ (40 : Int) < (c : Int) + 1 := by omega
  have GB := (Gr.refl w).alloc (.cells #[.int .i64 b.kind, .int .i64 b.label, .slice a b.kids.length cap] 24)
  have b0 : (w.alloc (.cells #[.int .i64 b.kind, .int .i64 b.label, .slice a b.kids.length cap] 24)).cell? ⟨w.heap.size, 0, none⟩ = some (.int .i64 b.kind) := box_cell (Gr.refl _) (i := 0) rfl
  have b1 : (w.alloc (.cells #[.int .i64 b.kind, .int .i64 b.label, .slice a b.kids.length cap] 24)).cell? ⟨w.heap.size, 1, none⟩ = some (.int .i64 b.label) := box_cell (Gr.refl _) (i := 1) rfl
  have b2 : (w.alloc (.cells #[.int .i64 b.kind, .int .i64 b.label, .slice a b.kids.length cap] 24)).cell? ⟨w.heap.size, 2, none⟩ = some (.slice a b.kids.length cap) := box_cell (Gr.refl _) (i := 2) rfl
  have E1 := h.gr' GB
  have n0 := E1.num.cell (i := 0) (v := .int .i64 (c : Int)) rfl
  have f0 := E1.num.frozen 0
  have E2 := E1.put
  have n1 := E2.num.cell (i := 0) (v := .int .i64 ((c + 1 : Nat) : Int)) rfl
  have ecast : ((c + 1 : Nat) : Int) = (c : Int) + 1 := by omega
  rw [ecast] at n1
  have hlt := h.num.lt
  have hbn : w.heap.size ≠ nb := by omega
  have k0 : ((w.alloc (.cells #[.int .i64 b.kind, .int .i64 b.label, .slice a b.kids.length cap] 24)).setCell ⟨nb, 0, none⟩ (.int .i64 ((c : Int) + 1))).cell? ⟨w.heap.size, 0, none⟩ = some (.int .i64 b.kind) := (World.cell?_of_block (Below.heap_setCell _ ⟨nb, 0, none⟩ _ w.heap.size hbn)).trans b0
  have k1 : ((w.alloc (.cells #[.int .i64 b.kind, .int .i64 b.label, .slice a b.kids.length cap] 24)).setCell ⟨nb, 0, none⟩ (.int .i64 ((c : Int) + 1))).cell? ⟨w.heap.size, 1, none⟩ = some (.int .i64 b.label) := (World.cell?_of_block (Below.heap_setCell _ ⟨nb, 0, none⟩ _ w.heap.size hbn)).trans b1
  have k2 : ((w.alloc (.cells #[.int .i64 b.kind, .int .i64 b.label, .slice a b.kids.length cap] 24)).setCell ⟨nb, 0, none⟩ (.int .i64 ((c : Int) + 1))).cell? ⟨w.heap.size, 2, none⟩ = some (.slice a b.kids.length cap) := (World.cell?_of_block (Below.heap_setCell _ ⟨nb, 0, none⟩ _ w.heap.size hbn)).trans b2
  clear b0 b1 b2 ecast hlt hbn
  go_enter Try.func54, Try.ntmps54
  go_wp2_with fail
  go_ret
  exact RetC.mk HF.out E2
set_option maxHeartbeats 4000000 in
set_option maxRecDepth 100000 in
theorem check_high {w0 : World} {nb vb n : Nat} {b : BlockD} {a : Option Addr} {cap : Nat} {w : World} {c : Nat} (h : EnvC w0 nb vb c w) (hc : c ≤ 40) (h40 : ¬ 40 < c + 1) (hk : 6 < b.kind) : Calls Try.prog 54 #[.agg #[.int .i64 b.kind, .int .i64 b.label, .slice a b.kids.length cap], .pointer (some ⟨nb, 0, none⟩), .pointer (some ⟨vb, 0, none⟩)] w (RetC w0 nb vb (checkF (n + 1) b c)) := by
  have HF := Lib.hid (check_bad (n := n) h40 (form_kind (.inr hk)) (by decide))
  have hI : ¬ (40 : Int) < (c : Int) + 1 := by omega
  have hk1 : ¬ b.kind < 1 := by omega
  have GB := (Gr.refl w).alloc (.cells #[.int .i64 b.kind, .int .i64 b.label, .slice a b.kids.length cap] 24)
  have b0 : (w.alloc (.cells #[.int .i64 b.kind, .int .i64 b.label, .slice a b.kids.length cap] 24)).cell? ⟨w.heap.size, 0, none⟩ = some (.int .i64 b.kind) := box_cell (Gr.refl _) (i := 0) rfl
  have b1 : (w.alloc (.cells #[.int .i64 b.kind, .int .i64 b.label, .slice a b.kids.length cap] 24)).cell? ⟨w.heap.size, 1, none⟩ = some (.int .i64 b.label) := box_cell (Gr.refl _) (i := 1) rfl
  have b2 : (w.alloc (.cells #[.int .i64 b.kind, .int .i64 b.label, .slice a b.kids.length cap] 24)).cell? ⟨w.heap.size, 2, none⟩ = some (.slice a b.kids.length cap) := box_cell (Gr.refl _) (i := 2) rfl
  have E1 := h.gr' GB
  have n0 := E1.num.cell (i := 0) (v := .int .i64 (c : Int)) rfl
  have f0 := E1.num.frozen 0
  have E2 := E1.put
  have n1 := E2.num.cell (i := 0) (v := .int .i64 ((c + 1 : Nat) : Int)) rfl
  have ecast : ((c + 1 : Nat) : Int) = (c : Int) + 1 := by omega
  rw [ecast] at n1
  have hlt := h.num.lt
  have hbn : w.heap.size ≠ nb := by omega
  have k0 : ((w.alloc (.cells #[.int .i64 b.kind, .int .i64 b.label, .slice a b.kids.length cap] 24)).setCell ⟨nb, 0, none⟩ (.int .i64 ((c : Int) + 1))).cell? ⟨w.heap.size, 0, none⟩ = some (.int .i64 b.kind) := (World.cell?_of_block (Below.heap_setCell _ ⟨nb, 0, none⟩ _ w.heap.size hbn)).trans b0
  have k1 : ((w.alloc (.cells #[.int .i64 b.kind, .int .i64 b.label, .slice a b.kids.length cap] 24)).setCell ⟨nb, 0, none⟩ (.int .i64 ((c : Int) + 1))).cell? ⟨w.heap.size, 1, none⟩ = some (.int .i64 b.label) := (World.cell?_of_block (Below.heap_setCell _ ⟨nb, 0, none⟩ _ w.heap.size hbn)).trans b1
  have k2 : ((w.alloc (.cells #[.int .i64 b.kind, .int .i64 b.label, .slice a b.kids.length cap] 24)).setCell ⟨nb, 0, none⟩ (.int .i64 ((c : Int) + 1))).cell? ⟨w.heap.size, 2, none⟩ = some (.slice a b.kids.length cap) := (World.cell?_of_block (Below.heap_setCell _ ⟨nb, 0, none⟩ _ w.heap.size hbn)).trans b2
  clear b0 b1 b2 ecast hlt hbn
  go_enter Try.func54, Try.ntmps54
  go_wp2_with fail
  go_ret
  exact RetC.mk HF.out E2
set_option maxHeartbeats 4000000 in
set_option maxRecDepth 100000 in
theorem check_lab1 {w0 : World} {nb vb n : Nat} {b : BlockD} {a : Option Addr} {cap : Nat} {w : World} {c : Nat} (h : EnvC w0 nb vb c w) (hc : c ≤ 40) (h40 : ¬ 40 < c + 1) (hk : b.kind = 2) (hl : b.label < 1) : Calls Try.prog 54 #[.agg #[.int .i64 b.kind, .int .i64 b.label, .slice a b.kids.length cap], .pointer (some ⟨nb, 0, none⟩), .pointer (some ⟨vb, 0, none⟩)] w (RetC w0 nb vb (checkF (n + 1) b c)) := by
  have HF := Lib.hid (check_bad (n := n) h40 (form_label hk (.inl hl)) (by decide))
  have hI : ¬ (40 : Int) < (c : Int) + 1 := by omega
  have GB := (Gr.refl w).alloc (.cells #[.int .i64 b.kind, .int .i64 b.label, .slice a b.kids.length cap] 24)
  have b0 : (w.alloc (.cells #[.int .i64 b.kind, .int .i64 b.label, .slice a b.kids.length cap] 24)).cell? ⟨w.heap.size, 0, none⟩ = some (.int .i64 b.kind) := box_cell (Gr.refl _) (i := 0) rfl
  have b1 : (w.alloc (.cells #[.int .i64 b.kind, .int .i64 b.label, .slice a b.kids.length cap] 24)).cell? ⟨w.heap.size, 1, none⟩ = some (.int .i64 b.label) := box_cell (Gr.refl _) (i := 1) rfl
  have b2 : (w.alloc (.cells #[.int .i64 b.kind, .int .i64 b.label, .slice a b.kids.length cap] 24)).cell? ⟨w.heap.size, 2, none⟩ = some (.slice a b.kids.length cap) := box_cell (Gr.refl _) (i := 2) rfl
  have E1 := h.gr' GB
  have n0 := E1.num.cell (i := 0) (v := .int .i64 (c : Int)) rfl
  have f0 := E1.num.frozen 0
  have E2 := E1.put
  have n1 := E2.num.cell (i := 0) (v := .int .i64 ((c + 1 : Nat) : Int)) rfl
  have ecast : ((c + 1 : Nat) : Int) = (c : Int) + 1 := by omega
  rw [ecast] at n1
  have hlt := h.num.lt
  have hbn : w.heap.size ≠ nb := by omega
  have k0 : ((w.alloc (.cells #[.int .i64 b.kind, .int .i64 b.label, .slice a b.kids.length cap] 24)).setCell ⟨nb, 0, none⟩ (.int .i64 ((c : Int) + 1))).cell? ⟨w.heap.size, 0, none⟩ = some (.int .i64 b.kind) := (World.cell?_of_block (Below.heap_setCell _ ⟨nb, 0, none⟩ _ w.heap.size hbn)).trans b0
  have k1 : ((w.alloc (.cells #[.int .i64 b.kind, .int .i64 b.label, .slice a b.kids.length cap] 24)).setCell ⟨nb, 0, none⟩ (.int .i64 ((c : Int) + 1))).cell? ⟨w.heap.size, 1, none⟩ = some (.int .i64 b.label) := (World.cell?_of_block (Below.heap_setCell _ ⟨nb, 0, none⟩ _ w.heap.size hbn)).trans b1
  have k2 : ((w.alloc (.cells #[.int .i64 b.kind, .int .i64 b.label, .slice a b.kids.length cap] 24)).setCell ⟨nb, 0, none⟩ (.int .i64 ((c : Int) + 1))).cell? ⟨w.heap.size, 2, none⟩ = some (.slice a b.kids.length cap) := (World.cell?_of_block (Below.heap_setCell _ ⟨nb, 0, none⟩ _ w.heap.size hbn)).trans b2
  clear b0 b1 b2 ecast hlt hbn
  rw [hk] at k0 k1 k2 n0 n1 f0 E2 ⊢
  go_enter Try.func54, Try.ntmps54
  go_wp2_with fail
  go_ret
  exact RetC.mk HF.out E2
set_option maxHeartbeats 4000000 in
set_option maxRecDepth 100000 in
theorem check_lab2 {w0 : World} {nb vb n : Nat} {b : BlockD} {a : Option Addr} {cap : Nat} {w : World} {c : Nat} (h : EnvC w0 nb vb c w) (hc : c ≤ 40) (h40 : ¬ 40 < c + 1) (hk : b.kind = 2) (hl : 26 < b.label) : Calls Try.prog 54 #[.agg #[.int .i64 b.kind, .int .i64 b.label, .slice a b.kids.length cap], .pointer (some ⟨nb, 0, none⟩), .pointer (some ⟨vb, 0, none⟩)] w (RetC w0 nb vb (checkF (n + 1) b c)) := by
  have HF := Lib.hid (check_bad (n := n) h40 (form_label hk (.inr hl)) (by decide))
  have hI : ¬ (40 : Int) < (c : Int) + 1 := by omega
  have hl1 : ¬ b.label < 1 := by omega
  have GB := (Gr.refl w).alloc (.cells #[.int .i64 b.kind, .int .i64 b.label, .slice a b.kids.length cap] 24)
  have b0 : (w.alloc (.cells #[.int .i64 b.kind, .int .i64 b.label, .slice a b.kids.length cap] 24)).cell? ⟨w.heap.size, 0, none⟩ = some (.int .i64 b.kind) := box_cell (Gr.refl _) (i := 0) rfl
  have b1 : (w.alloc (.cells #[.int .i64 b.kind, .int .i64 b.label, .slice a b.kids.length cap] 24)).cell? ⟨w.heap.size, 1, none⟩ = some (.int .i64 b.label) := box_cell (Gr.refl _) (i := 1) rfl
  have b2 : (w.alloc (.cells #[.int .i64 b.kind, .int .i64 b.label, .slice a b.kids.length cap] 24)).cell? ⟨w.heap.size, 2, none⟩ = some (.slice a b.kids.length cap) := box_cell (Gr.refl _) (i := 2) rfl
  have E1 := h.gr' GB
  have n0 := E1.num.cell (i := 0) (v := .int .i64 (c : Int)) rfl
  have f0 := E1.num.frozen 0
  have E2 := E1.put
  have n1 := E2.num.cell (i := 0) (v := .int .i64 ((c + 1 : Nat) : Int)) rfl
  have ecast : ((c + 1 : Nat) : Int) = (c : Int) + 1 := by omega
  rw [ecast] at n1
  have hlt := h.num.lt
  have hbn : w.heap.size ≠ nb := by omega
  have k0 : ((w.alloc (.cells #[.int .i64 b.kind, .int .i64 b.label, .slice a b.kids.length cap] 24)).setCell ⟨nb, 0, none⟩ (.int .i64 ((c : Int) + 1))).cell? ⟨w.heap.size, 0, none⟩ = some (.int .i64 b.kind) := (World.cell?_of_block (Below.heap_setCell _ ⟨nb, 0, none⟩ _ w.heap.size hbn)).trans b0
  have k1 : ((w.alloc (.cells #[.int .i64 b.kind, .int .i64 b.label, .slice a b.kids.length cap] 24)).setCell ⟨nb, 0, none⟩ (.int .i64 ((c : Int) + 1))).cell? ⟨w.heap.size, 1, none⟩ = some (.int .i64 b.label) := (World.cell?_of_block (Below.heap_setCell _ ⟨nb, 0, none⟩ _ w.heap.size hbn)).trans b1
  have k2 : ((w.alloc (.cells #[.int .i64 b.kind, .int .i64 b.label, .slice a b.kids.length cap] 24)).setCell ⟨nb, 0, none⟩ (.int .i64 ((c : Int) + 1))).cell? ⟨w.heap.size, 2, none⟩ = some (.slice a b.kids.length cap) := (World.cell?_of_block (Below.heap_setCell _ ⟨nb, 0, none⟩ _ w.heap.size hbn)).trans b2
  clear b0 b1 b2 ecast hlt hbn
  rw [hk] at k0 k1 k2 n0 n1 f0 E2 ⊢
  go_enter Try.func54, Try.ntmps54
  go_wp2_with fail
  go_ret
  exact RetC.mk HF.out E2
end Go.Proofs.Ytajmccjnoejmfaa
