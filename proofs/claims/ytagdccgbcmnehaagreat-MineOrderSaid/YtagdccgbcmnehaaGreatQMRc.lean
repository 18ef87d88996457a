/- Texts of one family, joined; what the claim does not need is left out. -/
import Derived.Test.YtagdccgbcmnehaaGreatQMRb
import Derived.Laws.EntriesVeiled
namespace Go.Proofs.YtagdccgbcmnehaaGreat
open Go.RowKit Go.Tok
set_option linter.unusedVariables false
/-- c blocks were counted, in the cell at nb; the check itself lies at vb -/
structure EnvC (w0 : World) (nb vb : Nat) (c : Nat) (w : World) : Prop where
  num : Blk w nb 3 #[.int .i64 (c : Int)]
  fn : w.cell? ⟨vb, 0, none⟩ = some (.func (.func 66) #[] #[.pointer (some ⟨nb, 0, none⟩), .pointer (some ⟨vb, 0, none⟩)])
  gr : Gr w0 w
  lo : w0.heap.size ≤ nb
  ne : vb ≠ nb
theorem EnvC.gr' {w0 w w' : World} {nb vb c : Nat} (h : EnvC w0 nb vb c w) (g : Gr w w') : EnvC w0 nb vb c w' := ⟨h.num.gr g, cell_gr h.fn g, h.gr.trans g, h.lo, h.ne⟩
theorem EnvC.put {w0 w : World} {nb vb c : Nat} (h : EnvC w0 nb vb c w) : EnvC w0 nb vb (c + 1) (w.setCell ⟨nb, 0, none⟩ (.int .i64 ((c : Int) + 1))) := by
  refine ⟨?_, ?_, h.gr.setCell h.lo _, h.lo, h.ne⟩
  · have := h.num.set 0 (.int .i64 ((c : Int) + 1))
    simpa using this
  · rw [World.cell?_of_block (Below.heap_setCell w ⟨nb, 0, none⟩ _ vb h.ne)]
    exact h.fn
def RetC (w0 : World) (nb vb : Nat) (r : Nat × Int) (e : Ending) (w' : World) : Prop := e = .returned (.int .i64 r.2) ∧ EnvC w0 nb vb r.1 w'
theorem RetC.mk {w0 w' : World} {nb vb c : Nat} {x : Int} {r : Nat × Int} (h : r = (c, x)) (k : EnvC w0 nb vb c w') : RetC w0 nb vb r (.returned (.int .i64 x)) w' := by subst h; exact ⟨rfl, k⟩
theorem RetC.out {w0 w' : World} {nb vb : Nat} {r : Nat × Int} {e : Ending} (h : RetC w0 nb vb r e w') : e = .returned (.int .i64 r.2) ∧ EnvC w0 nb vb r.1 w' := h
attribute [irreducible] RetC
theorem checkL_le {f : BlockD → Nat → Nat × Int} (hf : ∀ k c, c ≤ 40 → (f k c).1 ≤ 41 ∧ ((f k c).2 = 0 → (f k c).1 ≤ 40)) : ∀ (ks : List BlockD) (c : Nat), c ≤ 40 → (checkL f ks c).1 ≤ 41 ∧ ((checkL f ks c).2 = 0 → (checkL f ks c).1 ≤ 40) := by
  intro ks
  induction ks with
  | nil => intro c h; simp only [checkL]; exact ⟨by omega, fun _ => h⟩
  | cons k r ih =>
    intro c h
    unfold checkL
    split
    · rename_i h0
      exact ih _ ((hf k c h).2 h0)
    · exact hf k c h
theorem check_le : ∀ (n : Nat) (b : BlockD) (c : Nat), c ≤ 40 → (checkF n b c).1 ≤ 41 ∧ ((checkF n b c).2 = 0 → (checkF n b c).1 ≤ 40) := by
  intro n
  induction n with
  | zero => intro b c h; simp only [checkF]; exact ⟨by omega, fun e => absurd e (show ¬ ((4 : Int) = 0) by decide)⟩
  | succ n ih =>
    intro b c h
    unfold checkF
    split
    · exact ⟨by omega, fun e => absurd e (show ¬ ((4 : Int) = 0) by decide)⟩
    · split
      · exact checkL_le ih _ _ (by omega)
      · rename_i h1 h2
        exact ⟨by omega, fun e => absurd e h2⟩
def CheckC (w0 : World) (nb vb n : Nat) : Prop := ∀ (b : BlockD) (a : Option Addr) (cap : Nat) (w : World) (c : Nat), KidsR n w0 (.slice a b.kids.length cap) b → EnvC w0 nb vb c w → c ≤ 40 →
  Calls Tryz.prog 66 #[.agg #[.int .i64 b.kind, .int .i64 b.label, .slice a b.kids.length cap], .pointer (some ⟨nb, 0, none⟩), .pointer (some ⟨vb, 0, none⟩)] w (RetC w0 nb vb (checkF n b c))
theorem check_bad {n : Nat} {b : BlockD} {c : Nat} {x : Int} (hc : ¬ 40 < c + 1) (h : formF b = x) (hx : x ≠ 0) : checkF (n + 1) b c = (c + 1, x) := by
  subst h
  unfold checkF
  rw [if_neg hc, if_neg hx]
theorem form_kind {b : BlockD} (h : b.kind < 1 ∨ 6 < b.kind) : formF b = 5 := by unfold formF; rw [if_pos h]
theorem form_label {b : BlockD} (h1 : b.kind = 2) (h : b.label < 1 ∨ 26 < b.label) : formF b = 2 := by unfold formF; rw [if_neg (by omega), if_pos ⟨h1, h⟩]
theorem form_kids {b : BlockD} (h1 : ¬ (b.kind < 1 ∨ 6 < b.kind)) (h2 : ¬ (b.kind = 2 ∧ (b.label < 1 ∨ 26 < b.label))) (h : b.kind < 3 ∧ 0 < b.kids.length ∨ 3 ≤ b.kind ∧ b.kids.length = 0 ∨ b.kind = 6 ∧ b.kids.length ≠ 2) : formF b = 1 := by unfold formF; rw [if_neg h1, if_neg h2, if_pos h]
theorem form_good {b : BlockD} (h1 : ¬ (b.kind < 1 ∨ 6 < b.kind)) (h2 : ¬ (b.kind = 2 ∧ (b.label < 1 ∨ 26 < b.label))) (h : ¬ (b.kind < 3 ∧ 0 < b.kids.length ∨ 3 ≤ b.kind ∧ b.kids.length = 0 ∨ b.kind = 6 ∧ b.kids.length ≠ 2)) : formF b = 0 := by unfold formF; rw [if_neg h1, if_neg h2, if_neg h]
set_option maxHeartbeats 4000000 in
set_option maxRecDepth 100000 in
theorem check_full {w0 : World} {nb vb n : Nat} {b : BlockD} {a : Option Addr} {cap : Nat} {w : World} {c : Nat} (h : EnvC w0 nb vb c w) (hc : c ≤ 40) (h40 : 40 < c + 1) : Calls Tryz.prog 66 #[.agg #[.int .i64 b.kind, .int .i64 b.label, .slice a b.kids.length cap], .pointer (some ⟨nb, 0, none⟩), .pointer (some ⟨vb, 0, none⟩)] w (RetC w0 nb vb (checkF (n + 1) b c)) := by
  have hF : checkF (n + 1) b c = (c + 1, 4) := by unfold checkF; rw [if_pos h40]
  have HF := Lib.hid hF
  have hI : (40 : Int) < (c : Int) + 1 := by omega
  clear hF
  have GB := (Gr.refl w).alloc (.cells #[.int .i64 b.kind, .int .i64 b.label, .slice a b.kids.length cap] 55)
  have b0 : (w.alloc (.cells #[.int .i64 b.kind, .int .i64 b.label, .slice a b.kids.length cap] 55)).cell? ⟨w.heap.size, 0, none⟩ = some (.int .i64 b.kind) := box_cell (Gr.refl _) (i := 0) rfl
  have b1 : (w.alloc (.cells #[.int .i64 b.kind, .int .i64 b.label, .slice a b.kids.length cap] 55)).cell? ⟨w.heap.size, 1, none⟩ = some (.int .i64 b.label) := box_cell (Gr.refl _) (i := 1) rfl
  have b2 : (w.alloc (.cells #[.int .i64 b.kind, .int .i64 b.label, .slice a b.kids.length cap] 55)).cell? ⟨w.heap.size, 2, none⟩ = some (.slice a b.kids.length cap) := box_cell (Gr.refl _) (i := 2) rfl
  have E1 := h.gr' GB
  have n0 := E1.num.cell (i := 0) (v := .int .i64 (c : Int)) rfl
  have f0 := E1.num.frozen 0
  have E2 := E1.put
  have n1 := E2.num.cell (i := 0) (v := .int .i64 ((c + 1 : Nat) : Int)) rfl
  have ecast : ((c + 1 : Nat) : Int) = (c : Int) + 1 := by omega
  rw [ecast] at n1
  have hlt := h.num.lt
  have hbn : w.heap.size ≠ nb := by omega
  have k0 : ((w.alloc (.cells #[.int .i64 b.kind, .int .i64 b.label, .slice a b.kids.length cap] 55)).setCell ⟨nb, 0, none⟩ (.int .i64 ((c : Int) + 1))).cell? ⟨w.heap.size, 0, none⟩ = some (.int .i64 b.kind) := (World.cell?_of_block (Below.heap_setCell _ ⟨nb, 0, none⟩ _ w.heap.size hbn)).trans b0
  have k1 : ((w.alloc (.cells #[.int .i64 b.kind, .int .i64 b.label, .slice a b.kids.length cap] 55)).setCell ⟨nb, 0, none⟩ (.int .i64 ((c : Int) + 1))).cell? ⟨w.heap.size, 1, none⟩ = some (.int .i64 b.label) := (World.cell?_of_block (Below.heap_setCell _ ⟨nb, 0, none⟩ _ w.heap.size hbn)).trans b1
  have k2 : ((w.alloc (.cells #[.int .i64 b.kind, .int .i64 b.label, .slice a b.kids.length cap] 55)).setCell ⟨nb, 0, none⟩ (.int .i64 ((c : Int) + 1))).cell? ⟨w.heap.size, 2, none⟩ = some (.slice a b.kids.length cap) := (World.cell?_of_block (Below.heap_setCell _ ⟨nb, 0, none⟩ _ w.heap.size hbn)).trans b2
  clear b0 b1 b2 ecast hlt hbn
  go_enter Tryz.func66, Tryz.ntmps66
  go_wp2_with fail
  go_ret
  exact RetC.mk HF.out E2
set_option maxHeartbeats 4000000 in
set_option maxRecDepth 100000 in
theorem check_low {w0 : World} {nb vb n : Nat} {b : BlockD} {a : Option Addr} {cap : Nat} {w : World} {c : Nat} (h : EnvC w0 nb vb c w) (hc : c ≤ 40) (h40 : ¬ 40 < c + 1) (hk : b.kind < 1) : Calls Tryz.prog 66 #[.agg #[.int .i64 b.kind, .int .i64 b.label, .slice a b.kids.length cap], .pointer (some ⟨nb, 0, none⟩), .pointer (some ⟨vb, 0, none⟩)] w (RetC w0 nb vb (checkF (n + 1) b c)) := by
  have HF := Lib.hid (check_bad (n := n) h40 (form_kind (.inl hk)) (by decide))
  have hI : ¬ (40 : Int) < (c : Int) + 1 := by omega
  have GB := (Gr.refl w).alloc (.cells #[.int .i64 b.kind, .int .i64 b.label, .slice a b.kids.length cap] 55)
  have b0 : (w.alloc (.cells #[.int .i64 b.kind, .int .i64 b.label, .slice a b.kids.length cap] 55)).cell? ⟨w.heap.size, 0, none⟩ = some (.int .i64 b.kind) := box_cell (Gr.refl _) (i := 0) rfl
  have b1 : (w.alloc (.cells #[.int .i64 b.kind, .int .i64 b.label, .slice a b.kids.length cap] 55)).cell? ⟨w.heap.size, 1, none⟩ = some (.int .i64 b.label) := box_cell (Gr.refl _) (i := 1) rfl
  have b2 : (w.alloc (.cells #[.int .i64 b.kind, .int .i64 b.label, .slice a b.kids.length cap] 55)).cell? ⟨w.heap.size, 2, none⟩ = some (.slice a b.kids.length cap) := box_cell (Gr.refl _) (i := 2) rfl
  have E1 := h.gr' GB
  have n0 := E1.num.cell (i := 0) (v := .int .i64 (c : Int)) rfl
  have f0 := E1.num.frozen 0
  have E2 := E1.put
  have n1 := E2.num.cell (i := 0) (v := .int .i64 ((c + 1 : Nat) : Int)) rfl
  have ecast : ((c + 1 : Nat) : Int) = (c : Int) + 1 := by omega
  rw [ecast] at n1
  have hlt := h.num.lt
  have hbn : w.heap.size ≠ nb := by omega
  have k0 : ((w.alloc (.cells #[.int .i64 b.kind, .int .i64 b.label, .slice a b.kids.length cap] 55)).setCell ⟨nb, 0, none⟩ (.int .i64 ((c : Int) + 1))).cell? ⟨w.heap.size, 0, none⟩ = some (.int .i64 b.kind) := (World.cell?_of_block (Below.heap_setCell _ ⟨nb, 0, none⟩ _ w.heap.size hbn)).trans b0
  have k1 : ((w.alloc (.cells #[.int .i64 b.kind, .int .i64 b.label, .slice a b.kids.length cap] 55)).setCell ⟨nb, 0, none⟩ (.int .i64 ((c : Int) + 1))).cell? ⟨w.heap.size, 1, none⟩ = some (.int .i64 b.label) := (World.cell?_of_block (Below.heap_setCell _ ⟨nb, 0, none⟩ _ w.heap.size hbn)).trans b1
  have k2 : ((w.alloc (.cells #[.int .i64 b.kind, .int .i64 b.label, .slice a b.kids.length cap] 55)).setCell ⟨nb, 0, none⟩ (.int .i64 ((c : Int) + 1))).cell? ⟨w.heap.size, 2, none⟩ = some (.slice a b.kids.length cap) := (World.cell?_of_block (Below.heap_setCell _ ⟨nb, 0, none⟩ _ w.heap.size hbn)).trans b2
  clear b0 b1 b2 ecast hlt hbn
  go_enter Tryz.func66, Tryz.ntmps66
  go_wp2_with fail
  go_ret
  exact RetC.mk HF.out E2
set_option maxHeartbeats 4000000 in
set_option maxRecDepth 100000 in
theorem check_high {w0 : World} {nb vb n : Nat} {b : BlockD} {a : Option Addr} {cap : Nat} {w : World} {c : Nat} (h : EnvC w0 nb vb c w) (hc : c ≤ 40) (h40 : ¬ 40 < c + 1) (hk : 6 < b.kind) : Calls Tryz.prog 66 #[.agg #[.int .i64 b.kind, .int .i64 b.label, .slice a b.kids.length cap], .pointer (some ⟨nb, 0, none⟩), .pointer (some ⟨vb, 0, none⟩)] w (RetC w0 nb vb (checkF (n + 1) b c)) := by
  have HF := Lib.hid (check_bad (n := n) h40 (form_kind (.inr hk)) (by decide))
  have hI : ¬ (40 : Int) < (c : Int) + 1 := by omega
  have hk1 : ¬ b.kind < 1 := by omega
  have GB := (Gr.refl w).alloc (.cells #[.int .i64 b.kind, .int .i64 b.label, .slice a b.kids.length cap] 55)
  have b0 : (w.alloc (.cells #[.int .i64 b.kind, .int .i64 b.label, .slice a b.kids.length cap] 55)).cell? ⟨w.heap.size, 0, none⟩ = some (.int .i64 b.kind) := box_cell (Gr.refl _) (i := 0) rfl
  have b1 : (w.alloc (.cells #[.int .i64 b.kind, .int .i64 b.label, .slice a b.kids.length cap] 55)).cell? ⟨w.heap.size, 1, none⟩ = some (.int .i64 b.label) := box_cell (Gr.refl _) (i := 1) rfl
  have b2 : (w.alloc (.cells #[.int .i64 b.kind, .int .i64 b.label, .slice a b.kids.length cap] 55)).cell? ⟨w.heap.size, 2, none⟩ = some (.slice a b.kids.length cap) := box_cell (Gr.refl _) (i := 2) rfl
  have E1 := h.gr' GB
  have n0 := E1.num.cell (i := 0) (v := .int .i64 (c : Int)) rfl
  have f0 := E1.num.frozen 0
  have E2 := E1.put
  have n1 := E2.num.cell (i := 0) (v := .int .i64 ((c + 1 : Nat) : Int)) rfl
  have ecast : ((c + 1 : Nat) : Int) = (c : Int) + 1 := by omega
  rw [ecast] at n1
  have hlt := h.num.lt
  have hbn : w.heap.size ≠ nb := by omega
  have k0 : ((w.alloc (.cells #[.int .i64 b.kind, .int .i64 b.label, .slice a b.kids.length cap] 55)).setCell ⟨nb, 0, none⟩ (.int .i64 ((c : Int) + 1))).cell? ⟨w.heap.size, 0, none⟩ = some (.int .i64 b.kind) := (World.cell?_of_block (Below.heap_setCell _ ⟨nb, 0, none⟩ _ w.heap.size hbn)).trans b0
  have k1 : ((w.alloc (.cells #[.int .i64 b.kind, .int .i64 b.label, .slice a b.kids.length cap] 55)).setCell ⟨nb, 0, none⟩ (.int .i64 ((c : Int) + 1))).cell? ⟨w.heap.size, 1, none⟩ = some (.int .i64 b.label) := (World.cell?_of_block (Below.heap_setCell _ ⟨nb, 0, none⟩ _ w.heap.size hbn)).trans b1
  have k2 : ((w.alloc (.cells #[.int .i64 b.kind, .int .i64 b.label, .slice a b.kids.length cap] 55)).setCell ⟨nb, 0, none⟩ (.int .i64 ((c : Int) + 1))).cell? ⟨w.heap.size, 2, none⟩ = some (.slice a b.kids.length cap) := (World.cell?_of_block (Below.heap_setCell _ ⟨nb, 0, none⟩ _ w.heap.size hbn)).trans b2
  clear b0 b1 b2 ecast hlt hbn
  go_enter Tryz.func66, Tryz.ntmps66
  go_wp2_with fail
  go_ret
  exact RetC.mk HF.out E2
set_option maxHeartbeats 4000000 in
set_option maxRecDepth 100000 in
theorem check_lab1 {w0 : World} {nb vb n : Nat} {b : BlockD} {a : Option Addr} {cap : Nat} {w : World} {c : Nat} (h : EnvC w0 nb vb c w) (hc : c ≤ 40) (h40 : ¬ 40 < c + 1) (hk : b.kind = 2) (hl : b.label < 1) : Calls Tryz.prog 66 #[.agg #[.int .i64 b.kind, .int .i64 b.label, .slice a b.kids.length cap], .pointer (some ⟨nb, 0, none⟩), .pointer (some ⟨vb, 0, none⟩)] w (RetC w0 nb vb (checkF (n + 1) b c)) := by
  have HF := Lib.hid (check_bad (n := n) h40 (form_label hk (.inl hl)) (by decide))
  have hI : ¬ (40 : Int) < (c : Int) + 1 := by omega
  have GB := (Gr.refl w).alloc (.cells #[.int .i64 b.kind, .int .i64 b.label, .slice a b.kids.length cap] 55)
  have b0 : (w.alloc (.cells #[.int .i64 b.kind, .int .i64 b.label, .slice a b.kids.length cap] 55)).cell? ⟨w.heap.size, 0, none⟩ = some (.int .i64 b.kind) := box_cell (Gr.refl _) (i := 0) rfl
  have b1 : (w.alloc (.cells #[.int .i64 b.kind, .int .i64 b.label, .slice a b.kids.length cap] 55)).cell? ⟨w.heap.size, 1, none⟩ = some (.int .i64 b.label) := box_cell (Gr.refl _) (i := 1) rfl
  have b2 : (w.alloc (.cells #[.int .i64 b.kind, .int .i64 b.label, .slice a b.kids.length cap] 55)).cell? ⟨w.heap.size, 2, none⟩ = some (.slice a b.kids.length cap) := box_cell (Gr.refl _) (i := 2) rfl
  have E1 := h.gr' GB
  have n0 := E1.num.cell (i := 0) (v := .int .i64 (c : Int)) rfl
  have f0 := E1.num.frozen 0
  have E2 := E1.put
  have n1 := E2.num.cell (i := 0) (v := .int .i64 ((c + 1 : Nat) : Int)) rfl
  have ecast : ((c + 1 : Nat) : Int) = (c : Int) + 1 := by omega
  rw [ecast] at n1
  have hlt := h.num.lt
  have hbn : w.heap.size ≠ nb := by omega
  have k0 : ((w.alloc (.cells #[.int .i64 b.kind, .int .i64 b.label, .slice a b.kids.length cap] 55)).setCell ⟨nb, 0, none⟩ (.int .i64 ((c : Int) + 1))).cell? ⟨w.heap.size, 0, none⟩ = some (.int .i64 b.kind) := (World.cell?_of_block (Below.heap_setCell _ ⟨nb, 0, none⟩ _ w.heap.size hbn)).trans b0
  have k1 : ((w.alloc (.cells #[.int .i64 b.kind, .int .i64 b.label, .slice a b.kids.length cap] 55)).setCell ⟨nb, 0, none⟩ (.int .i64 ((c : Int) + 1))).cell? ⟨w.heap.size, 1, none⟩ = some (.int .i64 b.label) := (World.cell?_of_block (Below.heap_setCell _ ⟨nb, 0, none⟩ _ w.heap.size hbn)).trans b1
  have k2 : ((w.alloc (.cells #[.int .i64 b.kind, .int .i64 b.label, .slice a b.kids.length cap] 55)).setCell ⟨nb, 0, none⟩ (.int .i64 ((c : Int) + 1))).cell? ⟨w.heap.size, 2, none⟩ = some (.slice a b.kids.length cap) := (World.cell?_of_block (Below.heap_setCell _ ⟨nb, 0, none⟩ _ w.heap.size hbn)).trans b2
  clear b0 b1 b2 ecast hlt hbn
  rw [hk] at k0 k1 k2 n0 n1 f0 E2 ⊢
  go_enter Tryz.func66, Tryz.ntmps66
  go_wp2_with fail
  go_ret
  exact RetC.mk HF.out E2
set_option maxHeartbeats 4000000 in
set_option maxRecDepth 100000 in
theorem check_lab2 {w0 : World} {nb vb n : Nat} {b : BlockD} {a : Option Addr} {cap : Nat} {w : World} {c : Nat} (h : EnvC w0 nb vb c w) (hc : c ≤ 40) (h40 : ¬ 40 < c + 1) (hk : b.kind = 2) (hl : 26 < b.label) : Calls Tryz.prog 66 #[.agg #[.int .i64 b.kind, .int .i64 b.label, .slice a b.kids.length cap], .pointer (some ⟨nb, 0, none⟩), .pointer (some ⟨vb, 0, none⟩)] w (RetC w0 nb vb (checkF (n + 1) b c)) := by
  have HF := Lib.hid (check_bad (n := n) h40 (form_label hk (.inr hl)) (by decide))
  have hI : ¬ (40 : Int) < (c : Int) + 1 := by omega
  have hl1 : ¬ b.label < 1 := by omega
  have GB := (Gr.refl w).alloc (.cells #[.int .i64 b.kind, .int .i64 b.label, .slice a b.kids.length cap] 55)
  have b0 : (w.alloc (.cells #[.int .i64 b.kind, .int .i64 b.label, .slice a b.kids.length cap] 55)).cell? ⟨w.heap.size, 0, none⟩ = some (.int .i64 b.kind) := box_cell (Gr.refl _) (i := 0) rfl
  have b1 : (w.alloc (.cells #[.int .i64 b.kind, .int .i64 b.label, .slice a b.kids.length cap] 55)).cell? ⟨w.heap.size, 1, none⟩ = some (.int .i64 b.label) := box_cell (Gr.refl _) (i := 1) rfl
  have b2 : (w.alloc (.cells #[.int .i64 b.kind, .int .i64 b.label, .slice a b.kids.length cap] 55)).cell? ⟨w.heap.size, 2, none⟩ = some (.slice a b.kids.length cap) := box_cell (Gr.refl _) (i := 2) rfl
  have E1 := h.gr' GB
  have n0 := E1.num.cell (i := 0) (v := .int .i64 (c : Int)) rfl
  have f0 := E1.num.frozen 0
  have E2 := E1.put
  have n1 := E2.num.cell (i := 0) (v := .int .i64 ((c + 1 : Nat) : Int)) rfl
  have ecast : ((c + 1 : Nat) : Int) = (c : Int) + 1 := by omega
  rw [ecast] at n1
  have hlt := h.num.lt
  have hbn : w.heap.size ≠ nb := by omega
  have k0 : ((w.alloc (.cells #[.int .i64 b.kind, .int .i64 b.label, .slice a b.kids.length cap] 55)).setCell ⟨nb, 0, none⟩ (.int .i64 ((c : Int) + 1))).cell? ⟨w.heap.size, 0, none⟩ = some (.int .i64 b.kind) := (World.cell?_of_block (Below.heap_setCell _ ⟨nb, 0, none⟩ _ w.heap.size hbn)).trans b0
  have k1 : ((w.alloc (.cells #[.int .i64 b.kind, .int .i64 b.label, .slice a b.kids.length cap] 55)).setCell ⟨nb, 0, none⟩ (.int .i64 ((c : Int) + 1))).cell? ⟨w.heap.size, 1, none⟩ = some (.int .i64 b.label) := (World.cell?_of_block (Below.heap_setCell _ ⟨nb, 0, none⟩ _ w.heap.size hbn)).trans b1
  have k2 : ((w.alloc (.cells #[.int .i64 b.kind, .int .i64 b.label, .slice a b.kids.length cap] 55)).setCell ⟨nb, 0, none⟩ (.int .i64 ((c : Int) + 1))).cell? ⟨w.heap.size, 2, none⟩ = some (.slice a b.kids.length cap) := (World.cell?_of_block (Below.heap_setCell _ ⟨nb, 0, none⟩ _ w.heap.size hbn)).trans b2
  clear b0 b1 b2 ecast hlt hbn
  rw [hk] at k0 k1 k2 n0 n1 f0 E2 ⊢
  go_enter Tryz.func66, Tryz.ntmps66
  go_wp2_with fail
  go_ret
  exact RetC.mk HF.out E2
end Go.Proofs.YtagdccgbcmnehaaGreat

namespace Go.Proofs.YtagdccgbcmnehaaGreat
open Go.RowKit Go.Tok
set_option linter.unusedVariables false
set_option maxHeartbeats 4000000 in
set_option maxRecDepth 100000 in
theorem check_kid1 {w0 : World} {nb vb n : Nat} {b : BlockD} {a : Option Addr} {cap : Nat} {w : World} {c : Nat} (h : EnvC w0 nb vb c w) (hc : c ≤ 40) (h40 : ¬ 40 < c + 1) (hk : b.kind = 1) (hx : 0 < b.kids.length) : Calls Tryz.prog 66 #[.agg #[.int .i64 b.kind, .int .i64 b.label, .slice a b.kids.length cap], .pointer (some ⟨nb, 0, none⟩), .pointer (some ⟨vb, 0, none⟩)] w (RetC w0 nb vb (checkF (n + 1) b c)) := by
  have HF := Lib.hid (check_bad (n := n) h40 (form_kids (b := b) (by omega) (by omega) (by omega)) (by decide))
  have hI : ¬ (40 : Int) < (c : Int) + 1 := by omega
  have hy : (0 : Int) < (b.kids.length : Int) := by omega
  have GB := (Gr.refl w).alloc (.cells #[.int .i64 b.kind, .int .i64 b.label, .slice a b.kids.length cap] 55)
  have b0 : (w.alloc (.cells #[.int .i64 b.kind, .int .i64 b.label, .slice a b.kids.length cap] 55)).cell? ⟨w.heap.size, 0, none⟩ = some (.int .i64 b.kind) := box_cell (Gr.refl _) (i := 0) rfl
  have b1 : (w.alloc (.cells #[.int .i64 b.kind, .int .i64 b.label, .slice a b.kids.length cap] 55)).cell? ⟨w.heap.size, 1, none⟩ = some (.int .i64 b.label) := box_cell (Gr.refl _) (i := 1) rfl
  have b2 : (w.alloc (.cells #[.int .i64 b.kind, .int .i64 b.label, .slice a b.kids.length cap] 55)).cell? ⟨w.heap.size, 2, none⟩ = some (.slice a b.kids.length cap) := box_cell (Gr.refl _) (i := 2) rfl
  have E1 := h.gr' GB
  have n0 := E1.num.cell (i := 0) (v := .int .i64 (c : Int)) rfl
  have f0 := E1.num.frozen 0
  have E2 := E1.put
  have n1 := E2.num.cell (i := 0) (v := .int .i64 ((c + 1 : Nat) : Int)) rfl
  have ecast : ((c + 1 : Nat) : Int) = (c : Int) + 1 := by omega
  rw [ecast] at n1
  have hlt := h.num.lt
  have hbn : w.heap.size ≠ nb := by omega
  have k0 : ((w.alloc (.cells #[.int .i64 b.kind, .int .i64 b.label, .slice a b.kids.length cap] 55)).setCell ⟨nb, 0, none⟩ (.int .i64 ((c : Int) + 1))).cell? ⟨w.heap.size, 0, none⟩ = some (.int .i64 b.kind) := (World.cell?_of_block (Below.heap_setCell _ ⟨nb, 0, none⟩ _ w.heap.size hbn)).trans b0
  have k1 : ((w.alloc (.cells #[.int .i64 b.kind, .int .i64 b.label, .slice a b.kids.length cap] 55)).setCell ⟨nb, 0, none⟩ (.int .i64 ((c : Int) + 1))).cell? ⟨w.heap.size, 1, none⟩ = some (.int .i64 b.label) := (World.cell?_of_block (Below.heap_setCell _ ⟨nb, 0, none⟩ _ w.heap.size hbn)).trans b1
  have k2 : ((w.alloc (.cells #[.int .i64 b.kind, .int .i64 b.label, .slice a b.kids.length cap] 55)).setCell ⟨nb, 0, none⟩ (.int .i64 ((c : Int) + 1))).cell? ⟨w.heap.size, 2, none⟩ = some (.slice a b.kids.length cap) := (World.cell?_of_block (Below.heap_setCell _ ⟨nb, 0, none⟩ _ w.heap.size hbn)).trans b2
  clear b0 b1 b2 ecast hlt hbn
  rw [hk] at k0 k1 k2 n0 n1 f0 E2 ⊢
  go_enter Tryz.func66, Tryz.ntmps66
  go_wp2_with fail
  go_ret
  exact RetC.mk HF.out E2
set_option maxHeartbeats 4000000 in
set_option maxRecDepth 100000 in
theorem check_kid2 {w0 : World} {nb vb n : Nat} {b : BlockD} {a : Option Addr} {cap : Nat} {w : World} {c : Nat} (h : EnvC w0 nb vb c w) (hc : c ≤ 40) (h40 : ¬ 40 < c + 1) (hk : b.kind = 2) (hl : ¬ b.label < 1) (hl2 : ¬ 26 < b.label) (hx : 0 < b.kids.length) : Calls Tryz.prog 66 #[.agg #[.int .i64 b.kind, .int .i64 b.label, .slice a b.kids.length cap], .pointer (some ⟨nb, 0, none⟩), .pointer (some ⟨vb, 0, none⟩)] w (RetC w0 nb vb (checkF (n + 1) b c)) := by
  have HF := Lib.hid (check_bad (n := n) h40 (form_kids (b := b) (by omega) (by omega) (by omega)) (by decide))
  have hI : ¬ (40 : Int) < (c : Int) + 1 := by omega
  have hy : (0 : Int) < (b.kids.length : Int) := by omega
  have GB := (Gr.refl w).alloc (.cells #[.int .i64 b.kind, .int .i64 b.label, .slice a b.kids.length cap] 55)
  have b0 : (w.alloc (.cells #[.int .i64 b.kind, .int .i64 b.label, .slice a b.kids.length cap] 55)).cell? ⟨w.heap.size, 0, none⟩ = some (.int .i64 b.kind) := box_cell (Gr.refl _) (i := 0) rfl
  have b1 : (w.alloc (.cells #[.int .i64 b.kind, .int .i64 b.label, .slice a b.kids.length cap] 55)).cell? ⟨w.heap.size, 1, none⟩ = some (.int .i64 b.label) := box_cell (Gr.refl _) (i := 1) rfl
  have b2 : (w.alloc (.cells #[.int .i64 b.kind, .int .i64 b.label, .slice a b.kids.length cap] 55)).cell? ⟨w.heap.size, 2, none⟩ = some (.slice a b.kids.length cap) := box_cell (Gr.refl _) (i := 2) rfl
  have E1 := h.gr' GB
  have n0 := E1.num.cell (i := 0) (v := .int .i64 (c : Int)) rfl
  have f0 := E1.num.frozen 0
  have E2 := E1.put
  have n1 := E2.num.cell (i := 0) (v := .int .i64 ((c + 1 : Nat) : Int)) rfl
  have ecast : ((c + 1 : Nat) : Int) = (c : Int) + 1 := by omega
  rw [ecast] at n1
  have hlt := h.num.lt
  have hbn : w.heap.size ≠ nb := by omega
  have k0 : ((w.alloc (.cells #[.int .i64 b.kind, .int .i64 b.label, .slice a b.kids.length cap] 55)).setCell ⟨nb, 0, none⟩ (.int .i64 ((c : Int) + 1))).cell? ⟨w.heap.size, 0, none⟩ = some (.int .i64 b.kind) := (World.cell?_of_block (Below.heap_setCell _ ⟨nb, 0, none⟩ _ w.heap.size hbn)).trans b0
  have k1 : ((w.alloc (.cells #[.int .i64 b.kind, .int .i64 b.label, .slice a b.kids.length cap] 55)).setCell ⟨nb, 0, none⟩ (.int .i64 ((c : Int) + 1))).cell? ⟨w.heap.size, 1, none⟩ = some (.int .i64 b.label) := (World.cell?_of_block (Below.heap_setCell _ ⟨nb, 0, none⟩ _ w.heap.size hbn)).trans b1
  have k2 : ((w.alloc (.cells #[.int .i64 b.kind, .int .i64 b.label, .slice a b.kids.length cap] 55)).setCell ⟨nb, 0, none⟩ (.int .i64 ((c : Int) + 1))).cell? ⟨w.heap.size, 2, none⟩ = some (.slice a b.kids.length cap) := (World.cell?_of_block (Below.heap_setCell _ ⟨nb, 0, none⟩ _ w.heap.size hbn)).trans b2
  clear b0 b1 b2 ecast hlt hbn
  rw [hk] at k0 k1 k2 n0 n1 f0 E2 ⊢
  go_enter Tryz.func66, Tryz.ntmps66
  go_wp2_with fail
  go_ret
  exact RetC.mk HF.out E2
set_option maxHeartbeats 4000000 in
set_option maxRecDepth 100000 in
theorem check_kid3 {w0 : World} {nb vb n : Nat} {b : BlockD} {a : Option Addr} {cap : Nat} {w : World} {c : Nat} (h : EnvC w0 nb vb c w) (hc : c ≤ 40) (h40 : ¬ 40 < c + 1) (hk : b.kind = 3) (hx : b.kids.length = 0) : Calls Tryz.prog 66 #[.agg #[.int .i64 b.kind, .int .i64 b.label, .slice a b.kids.length cap], .pointer (some ⟨nb, 0, none⟩), .pointer (some ⟨vb, 0, none⟩)] w (RetC w0 nb vb (checkF (n + 1) b c)) := by
  have HF := Lib.hid (check_bad (n := n) h40 (form_kids (b := b) (by omega) (by omega) (by omega)) (by decide))
  have hI : ¬ (40 : Int) < (c : Int) + 1 := by omega
  have hy : True := trivial
  have GB := (Gr.refl w).alloc (.cells #[.int .i64 b.kind, .int .i64 b.label, .slice a b.kids.length cap] 55)
  have b0 : (w.alloc (.cells #[.int .i64 b.kind, .int .i64 b.label, .slice a b.kids.length cap] 55)).cell? ⟨w.heap.size, 0, none⟩ = some (.int .i64 b.kind) := box_cell (Gr.refl _) (i := 0) rfl
  have b1 : (w.alloc (.cells #[.int .i64 b.kind, .int .i64 b.label, .slice a b.kids.length cap] 55)).cell? ⟨w.heap.size, 1, none⟩ = some (.int .i64 b.label) := box_cell (Gr.refl _) (i := 1) rfl
  have b2 : (w.alloc (.cells #[.int .i64 b.kind, .int .i64 b.label, .slice a b.kids.length cap] 55)).cell? ⟨w.heap.size, 2, none⟩ = some (.slice a b.kids.length cap) := box_cell (Gr.refl _) (i := 2) rfl
  have E1 := h.gr' GB
  have n0 := E1.num.cell (i := 0) (v := .int .i64 (c : Int)) rfl
  have f0 := E1.num.frozen 0
  have E2 := E1.put
  have n1 := E2.num.cell (i := 0) (v := .int .i64 ((c + 1 : Nat) : Int)) rfl
  have ecast : ((c + 1 : Nat) : Int) = (c : Int) + 1 := by omega
  rw [ecast] at n1
  have hlt := h.num.lt
  have hbn : w.heap.size ≠ nb := by omega
  have k0 : ((w.alloc (.cells #[.int .i64 b.kind, .int .i64 b.label, .slice a b.kids.length cap] 55)).setCell ⟨nb, 0, none⟩ (.int .i64 ((c : Int) + 1))).cell? ⟨w.heap.size, 0, none⟩ = some (.int .i64 b.kind) := (World.cell?_of_block (Below.heap_setCell _ ⟨nb, 0, none⟩ _ w.heap.size hbn)).trans b0
  have k1 : ((w.alloc (.cells #[.int .i64 b.kind, .int .i64 b.label, .slice a b.kids.length cap] 55)).setCell ⟨nb, 0, none⟩ (.int .i64 ((c : Int) + 1))).cell? ⟨w.heap.size, 1, none⟩ = some (.int .i64 b.label) := (World.cell?_of_block (Below.heap_setCell _ ⟨nb, 0, none⟩ _ w.heap.size hbn)).trans b1
  have k2 : ((w.alloc (.cells #[.int .i64 b.kind, .int .i64 b.label, .slice a b.kids.length cap] 55)).setCell ⟨nb, 0, none⟩ (.int .i64 ((c : Int) + 1))).cell? ⟨w.heap.size, 2, none⟩ = some (.slice a b.kids.length cap) := (World.cell?_of_block (Below.heap_setCell _ ⟨nb, 0, none⟩ _ w.heap.size hbn)).trans b2
  clear b0 b1 b2 ecast hlt hbn
  rw [hk] at k0 k1 k2 n0 n1 f0 E2 ⊢
  rw [hx] at k0 k1 k2 n0 n1 f0 E2 ⊢
  go_enter Tryz.func66, Tryz.ntmps66
  go_wp2_with fail
  go_ret
  exact RetC.mk HF.out E2
set_option maxHeartbeats 4000000 in
set_option maxRecDepth 100000 in
theorem check_kid4 {w0 : World} {nb vb n : Nat} {b : BlockD} {a : Option Addr} {cap : Nat} {w : World} {c : Nat} (h : EnvC w0 nb vb c w) (hc : c ≤ 40) (h40 : ¬ 40 < c + 1) (hk : b.kind = 4) (hx : b.kids.length = 0) : Calls Tryz.prog 66 #[.agg #[.int .i64 b.kind, .int .i64 b.label, .slice a b.kids.length cap], .pointer (some ⟨nb, 0, none⟩), .pointer (some ⟨vb, 0, none⟩)] w (RetC w0 nb vb (checkF (n + 1) b c)) := by
  have HF := Lib.hid (check_bad (n := n) h40 (form_kids (b := b) (by omega) (by omega) (by omega)) (by decide))
  have hI : ¬ (40 : Int) < (c : Int) + 1 := by omega
  have hy : True := trivial
  have GB := (Gr.refl w).alloc (.cells #[.int .i64 b.kind, .int .i64 b.label, .slice a b.kids.length cap] 55)
  have b0 : (w.alloc (.cells #[.int .i64 b.kind, .int .i64 b.label, .slice a b.kids.length cap] 55)).cell? ⟨w.heap.size, 0, none⟩ = some (.int .i64 b.kind) := box_cell (Gr.refl _) (i := 0) rfl
  have b1 : (w.alloc (.cells #[.int .i64 b.kind, .int .i64 b.label, .slice a b.kids.length cap] 55)).cell? ⟨w.heap.size, 1, none⟩ = some (.int .i64 b.label) := box_cell (Gr.refl _) (i := 1) rfl
  have b2 : (w.alloc (.cells #[.int .i64 b.kind, .int .i64 b.label, .slice a b.kids.length cap] 55)).cell? ⟨w.heap.size, 2, none⟩ = some (.slice a b.kids.length cap) := box_cell (Gr.refl _) (i := 2) rfl
  have E1 := h.gr' GB
  have n0 := E1.num.cell (i := 0) (v := .int .i64 (c : Int)) rfl
  have f0 := E1.num.frozen 0
  have E2 := E1.put
  have n1 := E2.num.cell (i := 0) (v := .int .i64 ((c + 1 : Nat) : Int)) rfl
  have ecast : ((c + 1 : Nat) : Int) = (c : Int) + 1 := by omega
  rw [ecast] at n1
  have hlt := h.num.lt
  have hbn : w.heap.size ≠ nb := by omega
  have k0 : ((w.alloc (.cells #[.int .i64 b.kind, .int .i64 b.label, .slice a b.kids.length cap] 55)).setCell ⟨nb, 0, none⟩ (.int .i64 ((c : Int) + 1))).cell? ⟨w.heap.size, 0, none⟩ = some (.int .i64 b.kind) := (World.cell?_of_block (Below.heap_setCell _ ⟨nb, 0, none⟩ _ w.heap.size hbn)).trans b0
  have k1 : ((w.alloc (.cells #[.int .i64 b.kind, .int .i64 b.label, .slice a b.kids.length cap] 55)).setCell ⟨nb, 0, none⟩ (.int .i64 ((c : Int) + 1))).cell? ⟨w.heap.size, 1, none⟩ = some (.int .i64 b.label) := (World.cell?_of_block (Below.heap_setCell _ ⟨nb, 0, none⟩ _ w.heap.size hbn)).trans b1
  have k2 : ((w.alloc (.cells #[.int .i64 b.kind, .int .i64 b.label, .slice a b.kids.length cap] 55)).setCell ⟨nb, 0, none⟩ (.int .i64 ((c : Int) + 1))).cell? ⟨w.heap.size, 2, none⟩ = some (.slice a b.kids.length cap) := (World.cell?_of_block (Below.heap_setCell _ ⟨nb, 0, none⟩ _ w.heap.size hbn)).trans b2
  clear b0 b1 b2 ecast hlt hbn
  rw [hk] at k0 k1 k2 n0 n1 f0 E2 ⊢
  rw [hx] at k0 k1 k2 n0 n1 f0 E2 ⊢
  go_enter Tryz.func66, Tryz.ntmps66
  go_wp2_with fail
  go_ret
  exact RetC.mk HF.out E2
set_option maxHeartbeats 4000000 in
set_option maxRecDepth 100000 in
theorem check_kid5 {w0 : World} {nb vb n : Nat} {b : BlockD} {a : Option Addr} {cap : Nat} {w : World} {c : Nat} (h : EnvC w0 nb vb c w) (hc : c ≤ 40) (h40 : ¬ 40 < c + 1) (hk : b.kind = 5) (hx : b.kids.length = 0) : Calls Tryz.prog 66 #[.agg #[.int .i64 b.kind, .int .i64 b.label, .slice a b.kids.length cap], .pointer (some ⟨nb, 0, none⟩), .pointer (some ⟨vb, 0, none⟩)] w (RetC w0 nb vb (checkF (n + 1) b c)) := by
  have HF := Lib.hid (check_bad (n := n) h40 (form_kids (b := b) (by omega) (by omega) (by omega)) (by decide))
  have hI : ¬ (40 : Int) < (c : Int) + 1 := by omega
  have hy : True := trivial
  have GB := (Gr.refl w).alloc (.cells #[.int .i64 b.kind, .int .i64 b.label, .slice a b.kids.length cap] 55)
  have b0 : (w.alloc (.cells #[.int .i64 b.kind, .int .i64 b.label, .slice a b.kids.length cap] 55)).cell? ⟨w.heap.size, 0, none⟩ = some (.int .i64 b.kind) := box_cell (Gr.refl _) (i := 0) rfl
  have b1 : (w.alloc (.cells #[.int .i64 b.kind, .int .i64 b.label, .slice a b.kids.length cap] 55)).cell? ⟨w.heap.size, 1, none⟩ = some (.int .i64 b.label) := box_cell (Gr.refl _) (i := 1) rfl
  have b2 : (w.alloc (.cells #[.int .i64 b.kind, .int .i64 b.label, .slice a b.kids.length cap] 55)).cell? ⟨w.heap.size, 2, none⟩ = some (.slice a b.kids.length cap) := box_cell (Gr.refl _) (i := 2) rfl
  have E1 := h.gr' GB
  have n0 := E1.num.cell (i := 0) (v := .int .i64 (c : Int)) rfl
  have f0 := E1.num.frozen 0
  have E2 := E1.put
  have n1 := E2.num.cell (i := 0) (v := .int .i64 ((c + 1 : Nat) : Int)) rfl
  have ecast : ((c + 1 : Nat) : Int) = (c : Int) + 1 := by omega
  rw [ecast] at n1
  have hlt := h.num.lt
  have hbn : w.heap.size ≠ nb := by omega
  have k0 : ((w.alloc (.cells #[.int .i64 b.kind, .int .i64 b.label, .slice a b.kids.length cap] 55)).setCell ⟨nb, 0, none⟩ (.int .i64 ((c : Int) + 1))).cell? ⟨w.heap.size, 0, none⟩ = some (.int .i64 b.kind) := (World.cell?_of_block (Below.heap_setCell _ ⟨nb, 0, none⟩ _ w.heap.size hbn)).trans b0
  have k1 : ((w.alloc (.cells #[.int .i64 b.kind, .int .i64 b.label, .slice a b.kids.length cap] 55)).setCell ⟨nb, 0, none⟩ (.int .i64 ((c : Int) + 1))).cell? ⟨w.heap.size, 1, none⟩ = some (.int .i64 b.label) := (World.cell?_of_block (Below.heap_setCell _ ⟨nb, 0, none⟩ _ w.heap.size hbn)).trans b1
  have k2 : ((w.alloc (.cells #[.int .i64 b.kind, .int .i64 b.label, .slice a b.kids.length cap] 55)).setCell ⟨nb, 0, none⟩ (.int .i64 ((c : Int) + 1))).cell? ⟨w.heap.size, 2, none⟩ = some (.slice a b.kids.length cap) := (World.cell?_of_block (Below.heap_setCell _ ⟨nb, 0, none⟩ _ w.heap.size hbn)).trans b2
  clear b0 b1 b2 ecast hlt hbn
  rw [hk] at k0 k1 k2 n0 n1 f0 E2 ⊢
  rw [hx] at k0 k1 k2 n0 n1 f0 E2 ⊢
  go_enter Tryz.func66, Tryz.ntmps66
  go_wp2_with fail
  go_ret
  exact RetC.mk HF.out E2
set_option maxHeartbeats 4000000 in
set_option maxRecDepth 100000 in
theorem check_kid6 {w0 : World} {nb vb n : Nat} {b : BlockD} {a : Option Addr} {cap : Nat} {w : World} {c : Nat} (h : EnvC w0 nb vb c w) (hc : c ≤ 40) (h40 : ¬ 40 < c + 1) (hk : b.kind = 6) (hx : b.kids.length ≠ 2) (hx0 : b.kids.length ≠ 0) : Calls Tryz.prog 66 #[.agg #[.int .i64 b.kind, .int .i64 b.label, .slice a b.kids.length cap], .pointer (some ⟨nb, 0, none⟩), .pointer (some ⟨vb, 0, none⟩)] w (RetC w0 nb vb (checkF (n + 1) b c)) := by
  have HF := Lib.hid (check_bad (n := n) h40 (form_kids (b := b) (by omega) (by omega) (by omega)) (by decide))
  have hI : ¬ (40 : Int) < (c : Int) + 1 := by omega
  have hz0 : ((b.kids.length : Int) == 0) = false := beq_eq_false_iff_ne.2 (by omega)
  have hz1 : ((b.kids.length : Int) != 2) = true := by simp; omega
  have hz2 : ((b.kids.length : Int) == 2) = false := beq_eq_false_iff_ne.2 (by omega)
  have GB := (Gr.refl w).alloc (.cells #[.int .i64 b.kind, .int .i64 b.label, .slice a b.kids.length cap] 55)
  have b0 : (w.alloc (.cells #[.int .i64 b.kind, .int .i64 b.label, .slice a b.kids.length cap] 55)).cell? ⟨w.heap.size, 0, none⟩ = some (.int .i64 b.kind) := box_cell (Gr.refl _) (i := 0) rfl
  have b1 : (w.alloc (.cells #[.int .i64 b.kind, .int .i64 b.label, .slice a b.kids.length cap] 55)).cell? ⟨w.heap.size, 1, none⟩ = some (.int .i64 b.label) := box_cell (Gr.refl _) (i := 1) rfl
  have b2 : (w.alloc (.cells #[.int .i64 b.kind, .int .i64 b.label, .slice a b.kids.length cap] 55)).cell? ⟨w.heap.size, 2, none⟩ = some (.slice a b.kids.length cap) := box_cell (Gr.refl _) (i := 2) rfl
  have E1 := h.gr' GB
  have n0 := E1.num.cell (i := 0) (v := .int .i64 (c : Int)) rfl
  have f0 := E1.num.frozen 0
  have E2 := E1.put
  have n1 := E2.num.cell (i := 0) (v := .int .i64 ((c + 1 : Nat) : Int)) rfl
  have ecast : ((c + 1 : Nat) : Int) = (c : Int) + 1 := by omega
  rw [ecast] at n1
  have hlt := h.num.lt
  have hbn : w.heap.size ≠ nb := by omega
  have k0 : ((w.alloc (.cells #[.int .i64 b.kind, .int .i64 b.label, .slice a b.kids.length cap] 55)).setCell ⟨nb, 0, none⟩ (.int .i64 ((c : Int) + 1))).cell? ⟨w.heap.size, 0, none⟩ = some (.int .i64 b.kind) := (World.cell?_of_block (Below.heap_setCell _ ⟨nb, 0, none⟩ _ w.heap.size hbn)).trans b0
  have k1 : ((w.alloc (.cells #[.int .i64 b.kind, .int .i64 b.label, .slice a b.kids.length cap] 55)).setCell ⟨nb, 0, none⟩ (.int .i64 ((c : Int) + 1))).cell? ⟨w.heap.size, 1, none⟩ = some (.int .i64 b.label) := (World.cell?_of_block (Below.heap_setCell _ ⟨nb, 0, none⟩ _ w.heap.size hbn)).trans b1
  have k2 : ((w.alloc (.cells #[.int .i64 b.kind, .int .i64 b.label, .slice a b.kids.length cap] 55)).setCell ⟨nb, 0, none⟩ (.int .i64 ((c : Int) + 1))).cell? ⟨w.heap.size, 2, none⟩ = some (.slice a b.kids.length cap) := (World.cell?_of_block (Below.heap_setCell _ ⟨nb, 0, none⟩ _ w.heap.size hbn)).trans b2
  clear b0 b1 b2 ecast hlt hbn
  rw [hk] at k0 k1 k2 n0 n1 f0 E2 ⊢
  go_enter Tryz.func66, Tryz.ntmps66
  go_wp2_with fail
  go_ret
  exact RetC.mk HF.out E2
set_option maxHeartbeats 4000000 in
set_option maxRecDepth 100000 in
theorem check_kid60 {w0 : World} {nb vb n : Nat} {b : BlockD} {a : Option Addr} {cap : Nat} {w : World} {c : Nat} (h : EnvC w0 nb vb c w) (hc : c ≤ 40) (h40 : ¬ 40 < c + 1) (hk : b.kind = 6) (hx : b.kids.length = 0) : Calls Tryz.prog 66 #[.agg #[.int .i64 b.kind, .int .i64 b.label, .slice a b.kids.length cap], .pointer (some ⟨nb, 0, none⟩), .pointer (some ⟨vb, 0, none⟩)] w (RetC w0 nb vb (checkF (n + 1) b c)) := by
  have HF := Lib.hid (check_bad (n := n) h40 (form_kids (b := b) (by omega) (by omega) (by omega)) (by decide))
  have hI : ¬ (40 : Int) < (c : Int) + 1 := by omega
  have GB := (Gr.refl w).alloc (.cells #[.int .i64 b.kind, .int .i64 b.label, .slice a b.kids.length cap] 55)
  have b0 : (w.alloc (.cells #[.int .i64 b.kind, .int .i64 b.label, .slice a b.kids.length cap] 55)).cell? ⟨w.heap.size, 0, none⟩ = some (.int .i64 b.kind) := box_cell (Gr.refl _) (i := 0) rfl
  have b1 : (w.alloc (.cells #[.int .i64 b.kind, .int .i64 b.label, .slice a b.kids.length cap] 55)).cell? ⟨w.heap.size, 1, none⟩ = some (.int .i64 b.label) := box_cell (Gr.refl _) (i := 1) rfl
  have b2 : (w.alloc (.cells #[.int .i64 b.kind, .int .i64 b.label, .slice a b.kids.length cap] 55)).cell? ⟨w.heap.size, 2, none⟩ = some (.slice a b.kids.length cap) := box_cell (Gr.refl _) (i := 2) rfl
  have E1 := h.gr' GB
  have n0 := E1.num.cell (i := 0) (v := .int .i64 (c : Int)) rfl
  have f0 := E1.num.frozen 0
  have E2 := E1.put
  have n1 := E2.num.cell (i := 0) (v := .int .i64 ((c + 1 : Nat) : Int)) rfl
  have ecast : ((c + 1 : Nat) : Int) = (c : Int) + 1 := by omega
  rw [ecast] at n1
  have hlt := h.num.lt
  have hbn : w.heap.size ≠ nb := by omega
  have k0 : ((w.alloc (.cells #[.int .i64 b.kind, .int .i64 b.label, .slice a b.kids.length cap] 55)).setCell ⟨nb, 0, none⟩ (.int .i64 ((c : Int) + 1))).cell? ⟨w.heap.size, 0, none⟩ = some (.int .i64 b.kind) := (World.cell?_of_block (Below.heap_setCell _ ⟨nb, 0, none⟩ _ w.heap.size hbn)).trans b0
  have k1 : ((w.alloc (.cells #[.int .i64 b.kind, .int .i64 b.label, .slice a b.kids.length cap] 55)).setCell ⟨nb, 0, none⟩ (.int .i64 ((c : Int) + 1))).cell? ⟨w.heap.size, 1, none⟩ = some (.int .i64 b.label) := (World.cell?_of_block (Below.heap_setCell _ ⟨nb, 0, none⟩ _ w.heap.size hbn)).trans b1
  have k2 : ((w.alloc (.cells #[.int .i64 b.kind, .int .i64 b.label, .slice a b.kids.length cap] 55)).setCell ⟨nb, 0, none⟩ (.int .i64 ((c : Int) + 1))).cell? ⟨w.heap.size, 2, none⟩ = some (.slice a b.kids.length cap) := (World.cell?_of_block (Below.heap_setCell _ ⟨nb, 0, none⟩ _ w.heap.size hbn)).trans b2
  clear b0 b1 b2 ecast hlt hbn
  rw [hk] at k0 k1 k2 n0 n1 f0 E2 ⊢
  rw [hx] at k0 k1 k2 n0 n1 f0 E2 ⊢
  go_enter Tryz.func66, Tryz.ntmps66
  go_wp2_with fail
  go_ret
  exact RetC.mk HF.out E2
end Go.Proofs.YtagdccgbcmnehaaGreat

namespace Go.Proofs.YtagdccgbcmnehaaGreat
open Go.RowKit Go.Tok
set_option linter.unusedVariables false
set_option maxHeartbeats 4000000 in
set_option maxRecDepth 100000 in
theorem check_good1 {w0 : World} {nb vb n : Nat} {b : BlockD} {a : Option Addr} {cap : Nat} {w : World} {c : Nat} (h : EnvC w0 nb vb c w) (hc : c ≤ 40) (hB : Rd (blkK n) w0 (.slice a b.kids.length cap) b.kids) (ih : CheckC w0 nb vb n) (h40 : ¬ 40 < c + 1) (hk : b.kind = 1) (hx : b.kids.length = 0) : Calls Tryz.prog 66 #[.agg #[.int .i64 b.kind, .int .i64 b.label, .slice a b.kids.length cap], .pointer (some ⟨nb, 0, none⟩), .pointer (some ⟨vb, 0, none⟩)] w (RetC w0 nb vb (checkF (n + 1) b c)) := by
  have hF : checkF (n + 1) b c = checkL (checkF n) b.kids (c + 1) := by
    rw [checkF, if_neg h40, if_pos (form_good (by omega) (by omega) (by omega))]
  have HF := Lib.hid hF
  have hI : ¬ (40 : Int) < (c : Int) + 1 := by omega
  obtain ⟨_, _, e, hcl, hcm⟩ := hB.len
  cases e
  clear hF
  have hz : ¬ (0 : Int) < (b.kids.length : Int) := by omega
  clear hx
  have GB := (Gr.refl w).alloc (.cells #[.int .i64 b.kind, .int .i64 b.label, .slice a b.kids.length cap] 55)
  have b0 : (w.alloc (.cells #[.int .i64 b.kind, .int .i64 b.label, .slice a b.kids.length cap] 55)).cell? ⟨w.heap.size, 0, none⟩ = some (.int .i64 b.kind) := box_cell (Gr.refl _) (i := 0) rfl
  have b1 : (w.alloc (.cells #[.int .i64 b.kind, .int .i64 b.label, .slice a b.kids.length cap] 55)).cell? ⟨w.heap.size, 1, none⟩ = some (.int .i64 b.label) := box_cell (Gr.refl _) (i := 1) rfl
  have b2 : (w.alloc (.cells #[.int .i64 b.kind, .int .i64 b.label, .slice a b.kids.length cap] 55)).cell? ⟨w.heap.size, 2, none⟩ = some (.slice a b.kids.length cap) := box_cell (Gr.refl _) (i := 2) rfl
  have E1 := h.gr' GB
  have n0 := E1.num.cell (i := 0) (v := .int .i64 (c : Int)) rfl
  have f0 := E1.num.frozen 0
  have E2 := E1.put
  have n1 := E2.num.cell (i := 0) (v := .int .i64 ((c + 1 : Nat) : Int)) rfl
  have ecast : ((c + 1 : Nat) : Int) = (c : Int) + 1 := by omega
  rw [ecast] at n1
  have hlt := h.num.lt
  have hbn : w.heap.size ≠ nb := by omega
  have k0 : ((w.alloc (.cells #[.int .i64 b.kind, .int .i64 b.label, .slice a b.kids.length cap] 55)).setCell ⟨nb, 0, none⟩ (.int .i64 ((c : Int) + 1))).cell? ⟨w.heap.size, 0, none⟩ = some (.int .i64 b.kind) := (World.cell?_of_block (Below.heap_setCell _ ⟨nb, 0, none⟩ _ w.heap.size hbn)).trans b0
  have k1 : ((w.alloc (.cells #[.int .i64 b.kind, .int .i64 b.label, .slice a b.kids.length cap] 55)).setCell ⟨nb, 0, none⟩ (.int .i64 ((c : Int) + 1))).cell? ⟨w.heap.size, 1, none⟩ = some (.int .i64 b.label) := (World.cell?_of_block (Below.heap_setCell _ ⟨nb, 0, none⟩ _ w.heap.size hbn)).trans b1
  have k2 : ((w.alloc (.cells #[.int .i64 b.kind, .int .i64 b.label, .slice a b.kids.length cap] 55)).setCell ⟨nb, 0, none⟩ (.int .i64 ((c : Int) + 1))).cell? ⟨w.heap.size, 2, none⟩ = some (.slice a b.kids.length cap) := (World.cell?_of_block (Below.heap_setCell _ ⟨nb, 0, none⟩ _ w.heap.size hbn)).trans b2
  clear b0 b1 b2 ecast hlt hbn
  rw [hk] at k0 k1 k2 n0 n1 f0 E2 ⊢

  go_enter Tryz.func66, Tryz.ntmps66
  go_wp2_with fail
  go_loopw [66] (fun i wr => ∃ (k c' : Nat), i = .int .i64 k ∧ k ≤ b.kids.length ∧ EnvC w0 nb vb c' wr ∧ c' ≤ 40 ∧ checkF (n + 1) b c = checkL (checkF n) (b.kids.drop k) c') (fun i _ => b.kids.length - (intOf i).toNat)
  case atStart => exact ⟨0, c + 1, rfl, Nat.zero_le _, E2, by omega, by rw [List.drop_zero]; exact HF.out⟩
  case round =>
    rename World => wr
    obtain ⟨k, c', rfl, hkl, hE, hc', hR⟩ := hrel
    have HR := Lib.hid hR
    clear hR
    by_cases hlt : k < b.kids.length
    · exact absurd hlt (by omega)
    · obtain rfl : k = b.kids.length := by omega
      go_wp2_with fail
      go_ret
      exact RetC.mk (by rw [HR.out, List.drop_length]; rfl) hE
set_option maxHeartbeats 4000000 in
set_option maxRecDepth 100000 in
theorem check_good2 {w0 : World} {nb vb n : Nat} {b : BlockD} {a : Option Addr} {cap : Nat} {w : World} {c : Nat} (h : EnvC w0 nb vb c w) (hc : c ≤ 40) (hB : Rd (blkK n) w0 (.slice a b.kids.length cap) b.kids) (ih : CheckC w0 nb vb n) (h40 : ¬ 40 < c + 1) (hk : b.kind = 2) (hl : ¬ b.label < 1) (hl2 : ¬ 26 < b.label) (hx : b.kids.length = 0) : Calls Tryz.prog 66 #[.agg #[.int .i64 b.kind, .int .i64 b.label, .slice a b.kids.length cap], .pointer (some ⟨nb, 0, none⟩), .pointer (some ⟨vb, 0, none⟩)] w (RetC w0 nb vb (checkF (n + 1) b c)) := by
  have hF : checkF (n + 1) b c = checkL (checkF n) b.kids (c + 1) := by
    rw [checkF, if_neg h40, if_pos (form_good (by omega) (by omega) (by omega))]
  have HF := Lib.hid hF
  have hI : ¬ (40 : Int) < (c : Int) + 1 := by omega
  obtain ⟨_, _, e, hcl, hcm⟩ := hB.len
  cases e
  clear hF
  have hz : ¬ (0 : Int) < (b.kids.length : Int) := by omega
  clear hx
  have GB := (Gr.refl w).alloc (.cells #[.int .i64 b.kind, .int .i64 b.label, .slice a b.kids.length cap] 55)
  have b0 : (w.alloc (.cells #[.int .i64 b.kind, .int .i64 b.label, .slice a b.kids.length cap] 55)).cell? ⟨w.heap.size, 0, none⟩ = some (.int .i64 b.kind) := box_cell (Gr.refl _) (i := 0) rfl
  have b1 : (w.alloc (.cells #[.int .i64 b.kind, .int .i64 b.label, .slice a b.kids.length cap] 55)).cell? ⟨w.heap.size, 1, none⟩ = some (.int .i64 b.label) := box_cell (Gr.refl _) (i := 1) rfl
  have b2 : (w.alloc (.cells #[.int .i64 b.kind, .int .i64 b.label, .slice a b.kids.length cap] 55)).cell? ⟨w.heap.size, 2, none⟩ = some (.slice a b.kids.length cap) := box_cell (Gr.refl _) (i := 2) rfl
  have E1 := h.gr' GB
  have n0 := E1.num.cell (i := 0) (v := .int .i64 (c : Int)) rfl
  have f0 := E1.num.frozen 0
  have E2 := E1.put
  have n1 := E2.num.cell (i := 0) (v := .int .i64 ((c + 1 : Nat) : Int)) rfl
  have ecast : ((c + 1 : Nat) : Int) = (c : Int) + 1 := by omega
  rw [ecast] at n1
  have hlt := h.num.lt
  have hbn : w.heap.size ≠ nb := by omega
  have k0 : ((w.alloc (.cells #[.int .i64 b.kind, .int .i64 b.label, .slice a b.kids.length cap] 55)).setCell ⟨nb, 0, none⟩ (.int .i64 ((c : Int) + 1))).cell? ⟨w.heap.size, 0, none⟩ = some (.int .i64 b.kind) := (World.cell?_of_block (Below.heap_setCell _ ⟨nb, 0, none⟩ _ w.heap.size hbn)).trans b0
  have k1 : ((w.alloc (.cells #[.int .i64 b.kind, .int .i64 b.label, .slice a b.kids.length cap] 55)).setCell ⟨nb, 0, none⟩ (.int .i64 ((c : Int) + 1))).cell? ⟨w.heap.size, 1, none⟩ = some (.int .i64 b.label) := (World.cell?_of_block (Below.heap_setCell _ ⟨nb, 0, none⟩ _ w.heap.size hbn)).trans b1
  have k2 : ((w.alloc (.cells #[.int .i64 b.kind, .int .i64 b.label, .slice a b.kids.length cap] 55)).setCell ⟨nb, 0, none⟩ (.int .i64 ((c : Int) + 1))).cell? ⟨w.heap.size, 2, none⟩ = some (.slice a b.kids.length cap) := (World.cell?_of_block (Below.heap_setCell _ ⟨nb, 0, none⟩ _ w.heap.size hbn)).trans b2
  clear b0 b1 b2 ecast hlt hbn
  rw [hk] at k0 k1 k2 n0 n1 f0 E2 ⊢

  go_enter Tryz.func66, Tryz.ntmps66
  go_wp2_with fail
  go_loopw [66] (fun i wr => ∃ (k c' : Nat), i = .int .i64 k ∧ k ≤ b.kids.length ∧ EnvC w0 nb vb c' wr ∧ c' ≤ 40 ∧ checkF (n + 1) b c = checkL (checkF n) (b.kids.drop k) c') (fun i _ => b.kids.length - (intOf i).toNat)
  case atStart => exact ⟨0, c + 1, rfl, Nat.zero_le _, E2, by omega, by rw [List.drop_zero]; exact HF.out⟩
  case round =>
    rename World => wr
    obtain ⟨k, c', rfl, hkl, hE, hc', hR⟩ := hrel
    have HR := Lib.hid hR
    clear hR
    by_cases hlt : k < b.kids.length
    · exact absurd hlt (by omega)
    · obtain rfl : k = b.kids.length := by omega
      go_wp2_with fail
      go_ret
      exact RetC.mk (by rw [HR.out, List.drop_length]; rfl) hE
set_option maxHeartbeats 4000000 in
set_option maxRecDepth 100000 in
theorem check_good3 {w0 : World} {nb vb n : Nat} {b : BlockD} {a : Option Addr} {cap : Nat} {w : World} {c : Nat} (h : EnvC w0 nb vb c w) (hc : c ≤ 40) (hB : Rd (blkK n) w0 (.slice a b.kids.length cap) b.kids) (ih : CheckC w0 nb vb n) (h40 : ¬ 40 < c + 1) (hk : b.kind = 3) (hx : b.kids.length ≠ 0) : Calls Tryz.prog 66 #[.agg #[.int .i64 b.kind, .int .i64 b.label, .slice a b.kids.length cap], .pointer (some ⟨nb, 0, none⟩), .pointer (some ⟨vb, 0, none⟩)] w (RetC w0 nb vb (checkF (n + 1) b c)) := by
  have hF : checkF (n + 1) b c = checkL (checkF n) b.kids (c + 1) := by
    rw [checkF, if_neg h40, if_pos (form_good (by omega) (by omega) (by omega))]
  have HF := Lib.hid hF
  have hI : ¬ (40 : Int) < (c : Int) + 1 := by omega
  obtain ⟨_, _, e, hcl, hcm⟩ := hB.len
  cases e
  clear hF
  have hz : ((b.kids.length : Int) == 0) = false := beq_eq_false_iff_ne.2 (by omega)
  clear hx
  have GB := (Gr.refl w).alloc (.cells #[.int .i64 b.kind, .int .i64 b.label, .slice a b.kids.length cap] 55)
  have b0 : (w.alloc (.cells #[.int .i64 b.kind, .int .i64 b.label, .slice a b.kids.length cap] 55)).cell? ⟨w.heap.size, 0, none⟩ = some (.int .i64 b.kind) := box_cell (Gr.refl _) (i := 0) rfl
  have b1 : (w.alloc (.cells #[.int .i64 b.kind, .int .i64 b.label, .slice a b.kids.length cap] 55)).cell? ⟨w.heap.size, 1, none⟩ = some (.int .i64 b.label) := box_cell (Gr.refl _) (i := 1) rfl
  have b2 : (w.alloc (.cells #[.int .i64 b.kind, .int .i64 b.label, .slice a b.kids.length cap] 55)).cell? ⟨w.heap.size, 2, none⟩ = some (.slice a b.kids.length cap) := box_cell (Gr.refl _) (i := 2) rfl
  have E1 := h.gr' GB
  have n0 := E1.num.cell (i := 0) (v := .int .i64 (c : Int)) rfl
  have f0 := E1.num.frozen 0
  have E2 := E1.put
  have n1 := E2.num.cell (i := 0) (v := .int .i64 ((c + 1 : Nat) : Int)) rfl
  have ecast : ((c + 1 : Nat) : Int) = (c : Int) + 1 := by omega
  rw [ecast] at n1
  have hlt := h.num.lt
  have hbn : w.heap.size ≠ nb := by omega
  have k0 : ((w.alloc (.cells #[.int .i64 b.kind, .int .i64 b.label, .slice a b.kids.length cap] 55)).setCell ⟨nb, 0, none⟩ (.int .i64 ((c : Int) + 1))).cell? ⟨w.heap.size, 0, none⟩ = some (.int .i64 b.kind) := (World.cell?_of_block (Below.heap_setCell _ ⟨nb, 0, none⟩ _ w.heap.size hbn)).trans b0
  have k1 : ((w.alloc (.cells #[.int .i64 b.kind, .int .i64 b.label, .slice a b.kids.length cap] 55)).setCell ⟨nb, 0, none⟩ (.int .i64 ((c : Int) + 1))).cell? ⟨w.heap.size, 1, none⟩ = some (.int .i64 b.label) := (World.cell?_of_block (Below.heap_setCell _ ⟨nb, 0, none⟩ _ w.heap.size hbn)).trans b1
  have k2 : ((w.alloc (.cells #[.int .i64 b.kind, .int .i64 b.label, .slice a b.kids.length cap] 55)).setCell ⟨nb, 0, none⟩ (.int .i64 ((c : Int) + 1))).cell? ⟨w.heap.size, 2, none⟩ = some (.slice a b.kids.length cap) := (World.cell?_of_block (Below.heap_setCell _ ⟨nb, 0, none⟩ _ w.heap.size hbn)).trans b2
  clear b0 b1 b2 ecast hlt hbn
  rw [hk] at k0 k1 k2 n0 n1 f0 E2 ⊢

  go_enter Tryz.func66, Tryz.ntmps66
  go_wp2_with fail
  go_loopw [66] (fun i wr => ∃ (k c' : Nat), i = .int .i64 k ∧ k ≤ b.kids.length ∧ EnvC w0 nb vb c' wr ∧ c' ≤ 40 ∧ checkF (n + 1) b c = checkL (checkF n) (b.kids.drop k) c') (fun i _ => b.kids.length - (intOf i).toNat)
  case atStart => exact ⟨0, c + 1, rfl, Nat.zero_le _, E2, by omega, by rw [List.drop_zero]; exact HF.out⟩
  case round =>
    rename World => wr
    obtain ⟨k, c', rfl, hkl, hE, hc', hR⟩ := hrel
    have HR := Lib.hid hR
    clear hR
    by_cases hlt : k < b.kids.length
    · obtain ⟨p, o, ka, kc, rfl, c0, c1, c2, hkr⟩ := kid_in hB hE.gr hlt
      have hkI : (k : Int) < (b.kids.length : Int) := by omega
      have GA := (Gr.refl wr).alloc (.cells #[.int .i64 (ix b.kids k).kind, .int .i64 (ix b.kids k).label, .slice ka (ix b.kids k).kids.length kc] 55)
      have A0 : (wr.alloc (.cells #[.int .i64 (ix b.kids k).kind, .int .i64 (ix b.kids k).label, .slice ka (ix b.kids k).kids.length kc] 55)).cell? ⟨wr.heap.size, 0, none⟩ = some (.int .i64 (ix b.kids k).kind) := box_cell (Gr.refl _) (i := 0) rfl
      have A1 : (wr.alloc (.cells #[.int .i64 (ix b.kids k).kind, .int .i64 (ix b.kids k).label, .slice ka (ix b.kids k).kids.length kc] 55)).cell? ⟨wr.heap.size, 1, none⟩ = some (.int .i64 (ix b.kids k).label) := box_cell (Gr.refl _) (i := 1) rfl
      have A2 : (wr.alloc (.cells #[.int .i64 (ix b.kids k).kind, .int .i64 (ix b.kids k).label, .slice ka (ix b.kids k).kids.length kc] 55)).cell? ⟨wr.heap.size, 2, none⟩ = some (.slice ka (ix b.kids k).kids.length kc) := box_cell (Gr.refl _) (i := 2) rfl
      have EA := hE.gr' GA
      have V1 := EA.fn
      have hcall := ih (ix b.kids k) ka kc _ c' hkr EA hc'
      have hle := Lib.hid (check_le n (ix b.kids k) c' hc')
      rcases hq : checkF n (ix b.kids k) c' with ⟨d, x⟩
      rw [hq] at hcall hle
      by_cases hx : x = 0
      · subst hx
        have HQ := Lib.hid hq
        clear hq
        go_wp2_with fail
        refine hcall.mono ?_
        rintro _ w3 hr
        obtain ⟨rfl, E3⟩ := hr.out
        simp only [] at E3
        go_wp2_with fail
        go_roundw
        case rel => exact ⟨k + 1, d, by go_num, by omega, E3, (by have := hle.out.2; simp at this; exact this), by rw [HR.out, drop_ix hlt, checkL, HQ.out, if_pos rfl]⟩
        case measure => simp [intOf]; omega
      · have HQ := Lib.hid hq
        have hx1 : (x == 0) = false := by simpa using hx
        have hx2 : (x != 0) = true := by simpa using hx
        have HX := Lib.hid hx
        clear hq hx
        go_wp2_with fail
        refine hcall.mono ?_
        rintro _ w3 hr
        obtain ⟨rfl, E3⟩ := hr.out
        simp only [] at E3
        go_wp2_with fail
        go_ret
        exact RetC.mk (by rw [HR.out, drop_ix hlt, checkL, HQ.out, if_neg HX.out]) E3
    · obtain rfl : k = b.kids.length := by omega
      go_wp2_with fail
      go_ret
      exact RetC.mk (by rw [HR.out, List.drop_length]; rfl) hE
set_option maxHeartbeats 4000000 in
set_option maxRecDepth 100000 in
theorem check_good4 {w0 : World} {nb vb n : Nat} {b : BlockD} {a : Option Addr} {cap : Nat} {w : World} {c : Nat} (h : EnvC w0 nb vb c w) (hc : c ≤ 40) (hB : Rd (blkK n) w0 (.slice a b.kids.length cap) b.kids) (ih : CheckC w0 nb vb n) (h40 : ¬ 40 < c + 1) (hk : b.kind = 4) (hx : b.kids.length ≠ 0) : Calls Tryz.prog 66 #[.agg #[.int .i64 b.kind, .int .i64 b.label, .slice a b.kids.length cap], .pointer (some ⟨nb, 0, none⟩), .pointer (some ⟨vb, 0, none⟩)] w (RetC w0 nb vb (checkF (n + 1) b c)) := by
  have hF : checkF (n + 1) b c = checkL (checkF n) b.kids (c + 1) := by
    rw [checkF, if_neg h40, if_pos (form_good (by omega) (by omega) (by omega))]
  have HF := Lib.hid hF
  have hI : ¬ (40 : Int) < (c : Int) + 1 := by omega
  obtain ⟨_, _, e, hcl, hcm⟩ := hB.len
  cases e
  clear hF
  have hz : ((b.kids.length : Int) == 0) = false := beq_eq_false_iff_ne.2 (by omega)
  clear hx
  have GB := (Gr.refl w).alloc (.cells #[.int .i64 b.kind, .int .i64 b.label, .slice a b.kids.length cap] 55)
  have b0 : (w.alloc (.cells #[.int .i64 b.kind, .int .i64 b.label, .slice a b.kids.length cap] 55)).cell? ⟨w.heap.size, 0, none⟩ = some (.int .i64 b.kind) := box_cell (Gr.refl _) (i := 0) rfl
  have b1 : (w.alloc (.cells #[.int .i64 b.kind, .int .i64 b.label, .slice a b.kids.length cap] 55)).cell? ⟨w.heap.size, 1, none⟩ = some (.int .i64 b.label) := box_cell (Gr.refl _) (i := 1) rfl
  have b2 : (w.alloc (.cells #[.int .i64 b.kind, .int .i64 b.label, .slice a b.kids.length cap] 55)).cell? ⟨w.heap.size, 2, none⟩ = some (.slice a b.kids.length cap) := box_cell (Gr.refl _) (i := 2) rfl
  have E1 := h.gr' GB
  have n0 := E1.num.cell (i := 0) (v := .int .i64 (c : Int)) rfl
  have f0 := E1.num.frozen 0
  have E2 := E1.put
  have n1 := E2.num.cell (i := 0) (v := .int .i64 ((c + 1 : Nat) : Int)) rfl
  have ecast : ((c + 1 : Nat) : Int) = (c : Int) + 1 := by omega
  rw [ecast] at n1
  have hlt := h.num.lt
  have hbn : w.heap.size ≠ nb := by omega
  have k0 : ((w.alloc (.cells #[.int .i64 b.kind, .int .i64 b.label, .slice a b.kids.length cap] 55)).setCell ⟨nb, 0, none⟩ (.int .i64 ((c : Int) + 1))).cell? ⟨w.heap.size, 0, none⟩ = some (.int .i64 b.kind) := (World.cell?_of_block (Below.heap_setCell _ ⟨nb, 0, none⟩ _ w.heap.size hbn)).trans b0
  have k1 : ((w.alloc (.cells #[.int .i64 b.kind, .int .i64 b.label, .slice a b.kids.length cap] 55)).setCell ⟨nb, 0, none⟩ (.int .i64 ((c : Int) + 1))).cell? ⟨w.heap.size, 1, none⟩ = some (.int .i64 b.label) := (World.cell?_of_block (Below.heap_setCell _ ⟨nb, 0, none⟩ _ w.heap.size hbn)).trans b1
  have k2 : ((w.alloc (.cells #[.int .i64 b.kind, .int .i64 b.label, .slice a b.kids.length cap] 55)).setCell ⟨nb, 0, none⟩ (.int .i64 ((c : Int) + 1))).cell? ⟨w.heap.size, 2, none⟩ = some (.slice a b.kids.length cap) := (World.cell?_of_block (Below.heap_setCell _ ⟨nb, 0, none⟩ _ w.heap.size hbn)).trans b2
  clear b0 b1 b2 ecast hlt hbn
  rw [hk] at k0 k1 k2 n0 n1 f0 E2 ⊢

  go_enter Tryz.func66, Tryz.ntmps66
  go_wp2_with fail
  go_loopw [66] (fun i wr => ∃ (k c' : Nat), i = .int .i64 k ∧ k ≤ b.kids.length ∧ EnvC w0 nb vb c' wr ∧ c' ≤ 40 ∧ checkF (n + 1) b c = checkL (checkF n) (b.kids.drop k) c') (fun i _ => b.kids.length - (intOf i).toNat)
  case atStart => exact ⟨0, c + 1, rfl, Nat.zero_le _, E2, by omega, by rw [List.drop_zero]; exact HF.out⟩
  case round =>
    rename World => wr
    obtain ⟨k, c', rfl, hkl, hE, hc', hR⟩ := hrel
    have HR := Lib.hid hR
    clear hR
    by_cases hlt : k < b.kids.length
    · obtain ⟨p, o, ka, kc, rfl, c0, c1, c2, hkr⟩ := kid_in hB hE.gr hlt
      have hkI : (k : Int) < (b.kids.length : Int) := by omega
      have GA := (Gr.refl wr).alloc (.cells #[.int .i64 (ix b.kids k).kind, .int .i64 (ix b.kids k).label, .slice ka (ix b.kids k).kids.length kc] 55)
      have A0 : (wr.alloc (.cells #[.int .i64 (ix b.kids k).kind, .int .i64 (ix b.kids k).label, .slice ka (ix b.kids k).kids.length kc] 55)).cell? ⟨wr.heap.size, 0, none⟩ = some (.int .i64 (ix b.kids k).kind) := box_cell (Gr.refl _) (i := 0) rfl
      have A1 : (wr.alloc (.cells #[.int .i64 (ix b.kids k).kind, .int .i64 (ix b.kids k).label, .slice ka (ix b.kids k).kids.length kc] 55)).cell? ⟨wr.heap.size, 1, none⟩ = some (.int .i64 (ix b.kids k).label) := box_cell (Gr.refl _) (i := 1) rfl
      have A2 : (wr.alloc (.cells #[.int .i64 (ix b.kids k).kind, .int .i64 (ix b.kids k).label, .slice ka (ix b.kids k).kids.length kc] 55)).cell? ⟨wr.heap.size, 2, none⟩ = some (.slice ka (ix b.kids k).kids.length kc) := box_cell (Gr.refl _) (i := 2) rfl
      have EA := hE.gr' GA
      have V1 := EA.fn
      have hcall := ih (ix b.kids k) ka kc _ c' hkr EA hc'
      have hle := Lib.hid (check_le n (ix b.kids k) c' hc')
      rcases hq : checkF n (ix b.kids k) c' with ⟨d, x⟩
      rw [hq] at hcall hle
      by_cases hx : x = 0
      · subst hx
        have HQ := Lib.hid hq
        clear hq
        go_wp2_with fail
        refine hcall.mono ?_
        rintro _ w3 hr
        obtain ⟨rfl, E3⟩ := hr.out
        simp only [] at E3
        go_wp2_with fail
        go_roundw
        case rel => exact ⟨k + 1, d, by go_num, by omega, E3, (by have := hle.out.2; simp at this; exact this), by rw [HR.out, drop_ix hlt, checkL, HQ.out, if_pos rfl]⟩
        case measure => simp [intOf]; omega
      · have HQ := Lib.hid hq
        have hx1 : (x == 0) = false := by simpa using hx
        have hx2 : (x != 0) = true := by simpa using hx
        have HX := Lib.hid hx
        clear hq hx
        go_wp2_with fail
        refine hcall.mono ?_
        rintro _ w3 hr
        obtain ⟨rfl, E3⟩ := hr.out
        simp only [] at E3
        go_wp2_with fail
        go_ret
        exact RetC.mk (by rw [HR.out, drop_ix hlt, checkL, HQ.out, if_neg HX.out]) E3
    · obtain rfl : k = b.kids.length := by omega
      go_wp2_with fail
      go_ret
      exact RetC.mk (by rw [HR.out, List.drop_length]; rfl) hE
set_option maxHeartbeats 4000000 in
set_option maxRecDepth 100000 in
theorem check_good5 {w0 : World} {nb vb n : Nat} {b : BlockD} {a : Option Addr} {cap : Nat} {w : World} {c : Nat} (h : EnvC w0 nb vb c w) (hc : c ≤ 40) (hB : Rd (blkK n) w0 (.slice a b.kids.length cap) b.kids) (ih : CheckC w0 nb vb n) (h40 : ¬ 40 < c + 1) (hk : b.kind = 5) (hx : b.kids.length ≠ 0) : Calls Tryz.prog 66 #[.agg #[.int .i64 b.kind, .int .i64 b.label, .slice a b.kids.length cap], .pointer (some ⟨nb, 0, none⟩), .pointer (some ⟨vb, 0, none⟩)] w (RetC w0 nb vb (checkF (n + 1) b c)) := by
  have hF : checkF (n + 1) b c = checkL (checkF n) b.kids (c + 1) := by
    rw [checkF, if_neg h40, if_pos (form_good (by omega) (by omega) (by omega))]
  have HF := Lib.hid hF
  have hI : ¬ (40 : Int) < (c : Int) + 1 := by omega
  obtain ⟨_, _, e, hcl, hcm⟩ := hB.len
  cases e
  clear hF
  have hz : ((b.kids.length : Int) == 0) = false := beq_eq_false_iff_ne.2 (by omega)
  clear hx
  have GB := (Gr.refl w).alloc (.cells #[.int .i64 b.kind, .int .i64 b.label, .slice a b.kids.length cap] 55)
  have b0 : (w.alloc (.cells #[.int .i64 b.kind, .int .i64 b.label, .slice a b.kids.length cap] 55)).cell? ⟨w.heap.size, 0, none⟩ = some (.int .i64 b.kind) := box_cell (Gr.refl _) (i := 0) rfl
  have b1 : (w.alloc (.cells #[.int .i64 b.kind, .int .i64 b.label, .slice a b.kids.length cap] 55)).cell? ⟨w.heap.size, 1, none⟩ = some (.int .i64 b.label) := box_cell (Gr.refl _) (i := 1) rfl
  have b2 : (w.alloc (.cells #[.int .i64 b.kind, .int .i64 b.label, .slice a b.kids.length cap] 55)).cell? ⟨w.heap.size, 2, none⟩ = some (.slice a b.kids.length cap) := box_cell (Gr.refl _) (i := 2) rfl
  have E1 := h.gr' GB
  have n0 := E1.num.cell (i := 0) (v := .int .i64 (c : Int)) rfl
  have f0 := E1.num.frozen 0
  have E2 := E1.put
  have n1 := E2.num.cell (i := 0) (v := .int .i64 ((c + 1 : Nat) : Int)) rfl
  have ecast : ((c + 1 : Nat) : Int) = (c : Int) + 1 := by omega
  rw [ecast] at n1
  have hlt := h.num.lt
  have hbn : w.heap.size ≠ nb := by omega
  have k0 : ((w.alloc (.cells #[.int .i64 b.kind, .int .i64 b.label, .slice a b.kids.length cap] 55)).setCell ⟨nb, 0, none⟩ (.int .i64 ((c : Int) + 1))).cell? ⟨w.heap.size, 0, none⟩ = some (.int .i64 b.kind) := (World.cell?_of_block (Below.heap_setCell _ ⟨nb, 0, none⟩ _ w.heap.size hbn)).trans b0
  have k1 : ((w.alloc (.cells #[.int .i64 b.kind, .int .i64 b.label, .slice a b.kids.length cap] 55)).setCell ⟨nb, 0, none⟩ (.int .i64 ((c : Int) + 1))).cell? ⟨w.heap.size, 1, none⟩ = some (.int .i64 b.label) := (World.cell?_of_block (Below.heap_setCell _ ⟨nb, 0, none⟩ _ w.heap.size hbn)).trans b1
  have k2 : ((w.alloc (.cells #[.int .i64 b.kind, .int .i64 b.label, .slice a b.kids.length cap] 55)).setCell ⟨nb, 0, none⟩ (.int .i64 ((c : Int) + 1))).cell? ⟨w.heap.size, 2, none⟩ = some (.slice a b.kids.length cap) := (World.cell?_of_block (Below.heap_setCell _ ⟨nb, 0, none⟩ _ w.heap.size hbn)).trans b2
  clear b0 b1 b2 ecast hlt hbn
  rw [hk] at k0 k1 k2 n0 n1 f0 E2 ⊢

  go_enter Tryz.func66, Tryz.ntmps66
  go_wp2_with fail
  go_loopw [66] (fun i wr => ∃ (k c' : Nat), i = .int .i64 k ∧ k ≤ b.kids.length ∧ EnvC w0 nb vb c' wr ∧ c' ≤ 40 ∧ checkF (n + 1) b c = checkL (checkF n) (b.kids.drop k) c') (fun i _ => b.kids.length - (intOf i).toNat)
  case atStart => exact ⟨0, c + 1, rfl, Nat.zero_le _, E2, by omega, by rw [List.drop_zero]; exact HF.out⟩
  case round =>
    rename World => wr
    obtain ⟨k, c', rfl, hkl, hE, hc', hR⟩ := hrel
    have HR := Lib.hid hR
    clear hR
    by_cases hlt : k < b.kids.length
    · obtain ⟨p, o, ka, kc, rfl, c0, c1, c2, hkr⟩ := kid_in hB hE.gr hlt
      have hkI : (k : Int) < (b.kids.length : Int) := by omega
      have GA := (Gr.refl wr).alloc (.cells #[.int .i64 (ix b.kids k).kind, .int .i64 (ix b.kids k).label, .slice ka (ix b.kids k).kids.length kc] 55)
      have A0 : (wr.alloc (.cells #[.int .i64 (ix b.kids k).kind, .int .i64 (ix b.kids k).label, .slice ka (ix b.kids k).kids.length kc] 55)).cell? ⟨wr.heap.size, 0, none⟩ = some (.int .i64 (ix b.kids k).kind) := box_cell (Gr.refl _) (i := 0) rfl
      have A1 : (wr.alloc (.cells #[.int .i64 (ix b.kids k).kind, .int .i64 (ix b.kids k).label, .slice ka (ix b.kids k).kids.length kc] 55)).cell? ⟨wr.heap.size, 1, none⟩ = some (.int .i64 (ix b.kids k).label) := box_cell (Gr.refl _) (i := 1) rfl
      have A2 : (wr.alloc (.cells #[.int .i64 (ix b.kids k).kind, .int .i64 (ix b.kids k).label, .slice ka (ix b.kids k).kids.length kc] 55)).cell? ⟨wr.heap.size, 2, none⟩ = some (.slice ka (ix b.kids k).kids.length kc) := box_cell (Gr.refl _) (i := 2) rfl
      have EA := hE.gr' GA
      have V1 := EA.fn
      have hcall := ih (ix b.kids k) ka kc _ c' hkr EA hc'
      have hle := Lib.hid (check_le n (ix b.kids k) c' hc')
      rcases hq : checkF n (ix b.kids k) c' with ⟨d, x⟩
      rw [hq] at hcall hle
      by_cases hx : x = 0
      · subst hx
        have HQ := Lib.hid hq
        clear hq
        go_wp2_with fail
        refine hcall.mono ?_
        rintro _ w3 hr
        obtain ⟨rfl, E3⟩ := hr.out
        simp only [] at E3
        go_wp2_with fail
        go_roundw
        case rel => exact ⟨k + 1, d, by go_num, by omega, E3, (by have := hle.out.2; simp at this; exact this), by rw [HR.out, drop_ix hlt, checkL, HQ.out, if_pos rfl]⟩
        case measure => simp [intOf]; omega
      · have HQ := Lib.hid hq
        have hx1 : (x == 0) = false := by simpa using hx
        have hx2 : (x != 0) = true := by simpa using hx
        have HX := Lib.hid hx
        clear hq hx
        go_wp2_with fail
        refine hcall.mono ?_
        rintro _ w3 hr
        obtain ⟨rfl, E3⟩ := hr.out
        simp only [] at E3
        go_wp2_with fail
        go_ret
        exact RetC.mk (by rw [HR.out, drop_ix hlt, checkL, HQ.out, if_neg HX.out]) E3
    · obtain rfl : k = b.kids.length := by omega
      go_wp2_with fail
      go_ret
      exact RetC.mk (by rw [HR.out, List.drop_length]; rfl) hE
set_option maxHeartbeats 4000000 in
set_option maxRecDepth 100000 in
theorem check_good6 {w0 : World} {nb vb n : Nat} {b : BlockD} {a : Option Addr} {cap : Nat} {w : World} {c : Nat} (h : EnvC w0 nb vb c w) (hc : c ≤ 40) (hB : Rd (blkK n) w0 (.slice a b.kids.length cap) b.kids) (ih : CheckC w0 nb vb n) (h40 : ¬ 40 < c + 1) (hk : b.kind = 6) (hx : b.kids.length = 2) : Calls Tryz.prog 66 #[.agg #[.int .i64 b.kind, .int .i64 b.label, .slice a b.kids.length cap], .pointer (some ⟨nb, 0, none⟩), .pointer (some ⟨vb, 0, none⟩)] w (RetC w0 nb vb (checkF (n + 1) b c)) := by
  have hF : checkF (n + 1) b c = checkL (checkF n) b.kids (c + 1) := by
    rw [checkF, if_neg h40, if_pos (form_good (by omega) (by omega) (by omega))]
  have HF := Lib.hid hF
  have hI : ¬ (40 : Int) < (c : Int) + 1 := by omega
  obtain ⟨_, _, e, hcl, hcm⟩ := hB.len
  cases e
  clear hF
  have hz : ((b.kids.length : Int) == 0) = false := beq_eq_false_iff_ne.2 (by omega)
  have hz2 : ((b.kids.length : Int) == 2) = true := beq_iff_eq.2 (by omega)
  have hz3 : ((b.kids.length : Int) != 2) = false := by simp; omega
  clear hx
  have GB := (Gr.refl w).alloc (.cells #[.int .i64 b.kind, .int .i64 b.label, .slice a b.kids.length cap] 55)
  have b0 : (w.alloc (.cells #[.int .i64 b.kind, .int .i64 b.label, .slice a b.kids.length cap] 55)).cell? ⟨w.heap.size, 0, none⟩ = some (.int .i64 b.kind) := box_cell (Gr.refl _) (i := 0) rfl
  have b1 : (w.alloc (.cells #[.int .i64 b.kind, .int .i64 b.label, .slice a b.kids.length cap] 55)).cell? ⟨w.heap.size, 1, none⟩ = some (.int .i64 b.label) := box_cell (Gr.refl _) (i := 1) rfl
  have b2 : (w.alloc (.cells #[.int .i64 b.kind, .int .i64 b.label, .slice a b.kids.length cap] 55)).cell? ⟨w.heap.size, 2, none⟩ = some (.slice a b.kids.length cap) := box_cell (Gr.refl _) (i := 2) rfl
  have E1 := h.gr' GB
  have n0 := E1.num.cell (i := 0) (v := .int .i64 (c : Int)) rfl
  have f0 := E1.num.frozen 0
  have E2 := E1.put
  have n1 := E2.num.cell (i := 0) (v := .int .i64 ((c + 1 : Nat) : Int)) rfl
  have ecast : ((c + 1 : Nat) : Int) = (c : Int) + 1 := by omega
  rw [ecast] at n1
  have hlt := h.num.lt
  have hbn : w.heap.size ≠ nb := by omega
  have k0 : ((w.alloc (.cells #[.int .i64 b.kind, .int .i64 b.label, .slice a b.kids.length cap] 55)).setCell ⟨nb, 0, none⟩ (.int .i64 ((c : Int) + 1))).cell? ⟨w.heap.size, 0, none⟩ = some (.int .i64 b.kind) := (World.cell?_of_block (Below.heap_setCell _ ⟨nb, 0, none⟩ _ w.heap.size hbn)).trans b0
  have k1 : ((w.alloc (.cells #[.int .i64 b.kind, .int .i64 b.label, .slice a b.kids.length cap] 55)).setCell ⟨nb, 0, none⟩ (.int .i64 ((c : Int) + 1))).cell? ⟨w.heap.size, 1, none⟩ = some (.int .i64 b.label) := (World.cell?_of_block (Below.heap_setCell _ ⟨nb, 0, none⟩ _ w.heap.size hbn)).trans b1
  have k2 : ((w.alloc (.cells #[.int .i64 b.kind, .int .i64 b.label, .slice a b.kids.length cap] 55)).setCell ⟨nb, 0, none⟩ (.int .i64 ((c : Int) + 1))).cell? ⟨w.heap.size, 2, none⟩ = some (.slice a b.kids.length cap) := (World.cell?_of_block (Below.heap_setCell _ ⟨nb, 0, none⟩ _ w.heap.size hbn)).trans b2
  clear b0 b1 b2 ecast hlt hbn
  rw [hk] at k0 k1 k2 n0 n1 f0 E2 ⊢

  go_enter Tryz.func66, Tryz.ntmps66
  go_wp2_with fail
  go_loopw [66] (fun i wr => ∃ (k c' : Nat), i = .int .i64 k ∧ k ≤ b.kids.length ∧ EnvC w0 nb vb c' wr ∧ c' ≤ 40 ∧ checkF (n + 1) b c = checkL (checkF n) (b.kids.drop k) c') (fun i _ => b.kids.length - (intOf i).toNat)
  case atStart => exact ⟨0, c + 1, rfl, Nat.zero_le _, E2, by omega, by rw [List.drop_zero]; exact HF.out⟩
  case round =>
    rename World => wr
    obtain ⟨k, c', rfl, hkl, hE, hc', hR⟩ := hrel
    have HR := Lib.hid hR
    clear hR
    by_cases hlt : k < b.kids.length
    · obtain ⟨p, o, ka, kc, rfl, c0, c1, c2, hkr⟩ := kid_in hB hE.gr hlt
      have hkI : (k : Int) < (b.kids.length : Int) := by omega
      have GA := (Gr.refl wr).alloc (.cells #[.int .i64 (ix b.kids k).kind, .int .i64 (ix b.kids k).label, .slice ka (ix b.kids k).kids.length kc] 55)
      have A0 : (wr.alloc (.cells #[.int .i64 (ix b.kids k).kind, .int .i64 (ix b.kids k).label, .slice ka (ix b.kids k).kids.length kc] 55)).cell? ⟨wr.heap.size, 0, none⟩ = some (.int .i64 (ix b.kids k).kind) := box_cell (Gr.refl _) (i := 0) rfl
      have A1 : (wr.alloc (.cells #[.int .i64 (ix b.kids k).kind, .int .i64 (ix b.kids k).label, .slice ka (ix b.kids k).kids.length kc] 55)).cell? ⟨wr.heap.size, 1, none⟩ = some (.int .i64 (ix b.kids k).label) := box_cell (Gr.refl _) (i := 1) rfl
      have A2 : (wr.alloc (.cells #[.int .i64 (ix b.kids k).kind, .int .i64 (ix b.kids k).label, .slice ka (ix b.kids k).kids.length kc] 55)).cell? ⟨wr.heap.size, 2, none⟩ = some (.slice ka (ix b.kids k).kids.length kc) := box_cell (Gr.refl _) (i := 2) rfl
      have EA := hE.gr' GA
      have V1 := EA.fn
      have hcall := ih (ix b.kids k) ka kc _ c' hkr EA hc'
      have hle := Lib.hid (check_le n (ix b.kids k) c' hc')
      rcases hq : checkF n (ix b.kids k) c' with ⟨d, x⟩
      rw [hq] at hcall hle
      by_cases hx : x = 0
      · subst hx
        have HQ := Lib.hid hq
        clear hq
        go_wp2_with fail
        refine hcall.mono ?_
        rintro _ w3 hr
        obtain ⟨rfl, E3⟩ := hr.out
        simp only [] at E3
        go_wp2_with fail
        go_roundw
        case rel => exact ⟨k + 1, d, by go_num, by omega, E3, (by have := hle.out.2; simp at this; exact this), by rw [HR.out, drop_ix hlt, checkL, HQ.out, if_pos rfl]⟩
        case measure => simp [intOf]; omega
      · have HQ := Lib.hid hq
        have hx1 : (x == 0) = false := by simpa using hx
        have hx2 : (x != 0) = true := by simpa using hx
        have HX := Lib.hid hx
        clear hq hx
        go_wp2_with fail
        refine hcall.mono ?_
        rintro _ w3 hr
        obtain ⟨rfl, E3⟩ := hr.out
        simp only [] at E3
        go_wp2_with fail
        go_ret
        exact RetC.mk (by rw [HR.out, drop_ix hlt, checkL, HQ.out, if_neg HX.out]) E3
    · obtain rfl : k = b.kids.length := by omega
      go_wp2_with fail
      go_ret
      exact RetC.mk (by rw [HR.out, List.drop_length]; rfl) hE
theorem check_calls (w0 : World) (nb vb : Nat) : ∀ n, CheckC w0 nb vb n := by
  intro n
  induction n with
  | zero =>
    rintro b a cap w c ⟨m, hm, _⟩
    cases hm
  | succ n ih =>
    rintro b a cap w c ⟨m, hm, hB⟩ h hc
    cases hm
    by_cases h40 : 40 < c + 1
    · exact check_full h hc h40
    by_cases h1 : b.kind < 1
    · exact check_low h hc h40 h1
    by_cases h6 : 6 < b.kind
    · exact check_high h hc h40 h6
    by_cases h2 : b.kind = 2
    · by_cases hl : b.label < 1
      · exact check_lab1 h hc h40 h2 hl
      by_cases hl2 : 26 < b.label
      · exact check_lab2 h hc h40 h2 hl2
      by_cases hk : 0 < b.kids.length
      · exact check_kid2 h hc h40 h2 hl hl2 hk
      · exact check_good2 h hc hB ih h40 h2 hl hl2 (by omega)
    by_cases k1 : b.kind = 1
    · by_cases hk : 0 < b.kids.length
      · exact check_kid1 h hc h40 k1 hk
      · exact check_good1 h hc hB ih h40 k1 (by omega)
    by_cases k3 : b.kind = 3
    · by_cases hk : b.kids.length = 0
      · exact check_kid3 h hc h40 k3 hk
      · exact check_good3 h hc hB ih h40 k3 hk
    by_cases k4 : b.kind = 4
    · by_cases hk : b.kids.length = 0
      · exact check_kid4 h hc h40 k4 hk
      · exact check_good4 h hc hB ih h40 k4 hk
    by_cases k5 : b.kind = 5
    · by_cases hk : b.kids.length = 0
      · exact check_kid5 h hc h40 k5 hk
      · exact check_good5 h hc hB ih h40 k5 hk
    have k6 : b.kind = 6 := by omega
    by_cases hk : b.kids.length = 0
    · exact check_kid60 h hc h40 k6 hk
    by_cases hk2 : b.kids.length = 2
    · exact check_good6 h hc hB ih h40 k6 hk2
    · exact check_kid6 h hc h40 k6 hk2 hk
end Go.Proofs.YtagdccgbcmnehaaGreat

namespace Go.Proofs.YtagdccgbcmnehaaGreat
open Go.RowKit Go.Tok
set_option linter.unusedVariables false
set_option maxHeartbeats 4000000 in
set_option maxRecDepth 100000 in
theorem BlocksWrong_calls (n : Nat) (v : Value) (b : BlockD) (w : World) (h : BlockR n w v b) : Calls Tryz.prog 30 #[v] w fun e w' => e = .returned (.int .i64 (wrongB (n + 1) b)) ∧ Gr w w' := by
  obtain ⟨_, _, a, cap, rfl, _, _, hB⟩ := h.open_
  have eg : ∀ args w, (callFunc 66 args).run Tryz.prog w = .ok (.enter 66 args) w := (Go.Proofs.enters_of Tryz.func66 (by kernel_rfl) rfl)
  have G1 := (Gr.refl w).alloc (.cells #[.int .i64 b.kind, .int .i64 b.label, .slice a b.kids.length cap] 55)
  have bk1 : Blk (w.alloc (.cells #[.int .i64 b.kind, .int .i64 b.label, .slice a b.kids.length cap] 55)) w.heap.size 55 #[.int .i64 b.kind, .int .i64 b.label, .slice a b.kids.length cap] := Blk.new rfl
  have bk2 : Blk ((w.alloc (.cells #[.int .i64 b.kind, .int .i64 b.label, .slice a b.kids.length cap] 55)).alloc (.cells #[.int .i64 0] 3)) (w.heap.size + 1) 3 #[.int .i64 0] := Blk.new (by simp)
  have bk3 : Blk (((w.alloc (.cells #[.int .i64 b.kind, .int .i64 b.label, .slice a b.kids.length cap] 55)).alloc (.cells #[.int .i64 0] 3)).alloc (.cells #[(.func (.func 66) #[] #[.pointer (some ⟨w.heap.size + 1, 0, none⟩), .pointer (some ⟨w.heap.size + 1 + 1, 0, none⟩)])] 73)) (w.heap.size + 1 + 1) 73 #[(.func (.func 66) #[] #[.pointer (some ⟨w.heap.size + 1, 0, none⟩), .pointer (some ⟨w.heap.size + 1 + 1, 0, none⟩)])] := Blk.new (by simp)
  have G2 := (G1.alloc (.cells #[.int .i64 0] 3)).alloc (.cells #[(.func (.func 66) #[] #[.pointer (some ⟨w.heap.size + 1, 0, none⟩), .pointer (some ⟨w.heap.size + 1 + 1, 0, none⟩)])] 73)
  have bk1' := (bk1.gr ((Gr.refl _).alloc (.cells #[.int .i64 0] 3))).gr ((Gr.refl _).alloc (.cells #[(.func (.func 66) #[] #[.pointer (some ⟨w.heap.size + 1, 0, none⟩), .pointer (some ⟨w.heap.size + 1 + 1, 0, none⟩)])] 73))
  have bk2' := bk2.gr ((Gr.refl _).alloc (.cells #[(.func (.func 66) #[] #[.pointer (some ⟨w.heap.size + 1, 0, none⟩), .pointer (some ⟨w.heap.size + 1 + 1, 0, none⟩)])] 73))
  have d0 := bk1'.cell (i := 0) (v := .int .i64 b.kind) rfl
  have d1 := bk1'.cell (i := 1) (v := .int .i64 b.label) rfl
  have d2 := bk1'.cell (i := 2) (v := .slice a b.kids.length cap) rfl
  have d3 := bk3.cell (i := 0) rfl
  have E0 : EnvC w (w.heap.size + 1) (w.heap.size + 1 + 1) 0 _ := ⟨bk2', d3, G2, by omega, by omega⟩
  have hcall := check_calls w (w.heap.size + 1) (w.heap.size + 1 + 1) (n + 1) b a cap _ 0 ⟨n, rfl, hB⟩ E0 (by omega)
  clear bk1 bk2 bk3 bk1' bk2' G1 G2
  go_enter Tryz.func30, Tryz.ntmps30
  go_wp2_with fail
  refine hcall.mono ?_
  rintro _ w3 hr
  obtain ⟨rfl, E3⟩ := hr.out
  go_wp2_with fail
  go_ret
  exact ⟨rfl, E3.gr⟩
end Go.Proofs.YtagdccgbcmnehaaGreat

