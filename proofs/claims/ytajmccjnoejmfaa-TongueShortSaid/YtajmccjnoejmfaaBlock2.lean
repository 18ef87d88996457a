/- The check of blocks.Wrong, where the kids are too many or too few; where the block is right; and the whole. -/
import Derived.Test.YtajmccjnoejmfaaBlock1
namespace Go.Proofs.Ytajmccjnoejmfaa
open Go.RowKit Go.Tok
set_option linter.unusedVariables false
set_option maxHeartbeats 4000000 in
set_option maxRecDepth 100000 in
theorem check_kid1 {w0 : World} {nb vb n : Nat} {b : BlockD} {a : Option Addr} {cap : Nat} {w : World} {c : Nat} (h : EnvC w0 nb vb c w) (hc : c ≤ 40) (h40 : ¬ 40 < c + 1) (hk : b.kind = 1) (hx : 0 < b.kids.length) : Calls Try.prog 54 #[.agg #[.int .i64 b.kind, .int .i64 b.label, .slice a b.kids.length cap], .pointer (some ⟨nb, 0, none⟩), .pointer (some ⟨vb, 0, none⟩)] w (RetC w0 nb vb (checkF (n + 1) b c)) := by
  have HF := Lib.hid (check_bad (n := n) h40 (form_kids (b := b) (by omega) (by omega) (by omega)) (by decide))
  have hI : ¬ (40 : Int) < (c : Int) + 1 := by omega
  have hy : (0 : Int) < (b.kids.length : Int) := by omega
  have GB := (Gr.refl w).alloc (.cells #[.int .i64 b.kind, .int .i64 b.label, .slice a b.kids.length cap] 24)
  have b0 : (w.alloc (.cells #[.int .i64 b.kind, .int .i64 b.label, .slice a b.kids.length cap] 24)).cell? ⟨w.heap.size, 0, none⟩ = some (.int .i64 b.kind) := box_cell (Gr.refl _) (i := 0) rfl
  have b1 : (w.alloc (.cells #[.int .i64 b.kind, .int .i64 b.label, .slice a b.kids.length cap] 24)).cell? ⟨w.heap.size, 1, none⟩ = some (.int .i64 b.label) := box_cell (Gr.refl _) (i := 1) rfl
  have b2 : (w.alloc (.cells #[.int .i64 b.kind, .int .i64 b.label, .slice a b.kids.length cap] 24)).cell? ⟨w.heap.size, 2, none⟩ = some (.slice a b.kids.length cap) := box_cell (Gr.refl _) (i := 2) rfl
  have E1 := h.gr' GB
  have n0 := E1.num.cell (i := 0) (v := .int .i64 (c : Int)) rfl
  have f0 := E1.num.frozen 0
  have E2 := E1.put
  have n1 := E2.num.cell (i := 0) (v := .int .i64 ((c + 1 : Nat) : Int)) rfl
  have ecast : ((c + 1 : Nat) : Int) = (c : Int) + 1 := by omega
  rw [ecast] at n1
  have hlt := h.num.lt
  have hbn : w.heap.size ≠ nb := by omega
  have k0 : ((w.alloc (.cells #[.int .i64 b.kind, .int .i64 b.label, .slice a b.kids.length cap] 24)).setCell ⟨nb, 0, none⟩ (.int .i64 ((c : Int) + 1))).cell? ⟨w.heap.size, 0, none⟩ = some (.int .i64 b.kind) := (World.cell?_of_block (Below.heap_setCell _ ⟨nb, 0, none⟩ _ w.heap.size hbn)).trans b0
  have k1 : ((w.alloc (.cells #[.int .i64 b.kind, .int .i64 b.label, .slice a b.kids.length cap] 24)).setCell ⟨nb, 0, none⟩ (.int .i64 ((c : Int) + 1))).cell? ⟨w.heap.size, 1, none⟩ = some (.int .i64 b.label) := (World.cell?_of_block (Below.heap_setCell _ ⟨nb, 0, none⟩ _ w.heap.size hbn)).trans b1
  have k2 : ((w.alloc (.cells #[.int .i64 b.kind, .int .i64 b.label, .slice a b.kids.length cap] 24)).setCell ⟨nb, 0, none⟩ (.int .i64 ((c : Int) + 1))).cell? ⟨w.heap.size, 2, none⟩ = some (.slice a b.kids.length cap) := (World.cell?_of_block (Below.heap_setCell _ ⟨nb, 0, none⟩ _ w.heap.size hbn)).trans b2
  clear b0 b1 b2 ecast hlt hbn
  rw [hk] at k0 k1 k2 n0 n1 f0 E2 ⊢
  go_enter Try.func54, Try.ntmps54
  go_wp2_with fail
  go_ret
  exact RetC.mk HF.out E2
set_option maxHeartbeats 4000000 in
set_option maxRecDepth 100000 in
theorem check_kid2 {w0 : World} {nb vb n : Nat} {b : BlockD} {a : Option Addr} {cap : Nat} {w : World} {c : Nat} (h : EnvC w0 nb vb c w) (hc : c ≤ 40) (h40 : ¬ 40 < c + 1) (hk : b.kind = 2) (hl : ¬ b.label < 1) (hl2 : ¬ 26 < b.label) (hx : 0 < b.kids.length) : Calls Try.prog 54 #[.agg #[.int .i64 b.kind, .int .i64 b.label, .slice a b.kids.length cap], .pointer (some ⟨nb, 0, none⟩), .pointer (some ⟨vb, 0, none⟩)] w (RetC w0 nb vb (checkF (n + 1) b c)) := by
  have HF := Lib.hid (check_bad (n := n) h40 (form_kids (b := b) (by omega) (by omega) (by omega)) (by decide))
  have hI : ¬ (40 : Int) < (c : Int) + 1 := by omega
  have hy : (0 : Int) < (b.kids.length : Int) := by omega
  have GB := (Gr.refl w).alloc (.cells #[.int .i64 b.kind, .int .i64 b.label, .slice a b.kids.length cap] 24)
  have b0 : (w.alloc (.cells #[.int .i64 b.kind, .int .i64 b.label, .slice a b.kids.length cap] 24)).cell? ⟨w.heap.size, 0, none⟩ = some (.int .i64 b.kind) := box_cell (Gr.refl _) (i := 0) rfl
  have b1 : (w.alloc (.cells #[.int .i64 b.kind, .int .i64 b.label, .slice a b.kids.length cap] 24)).cell? ⟨w.heap.size, 1, none⟩ = some (.int .i64 b.label) := box_cell (Gr.refl _) (i := 1) rfl
  have b2 : (w.alloc (.cells #[.int .i64 b.kind, .int .i64 b.label, .slice a b.kids.length cap] 24)).cell? ⟨w.heap.size, 2, none⟩ = some (.slice a b.kids.length cap) := box_cell (Gr.refl _) (i := 2) rfl
  have E1 := h.gr' GB
  have n0 := E1.num.cell (i := 0) (v := .int .i64 (c : Int)) rfl
  have f0 := E1.num.frozen 0
  have E2 := E1.put
  have n1 := E2.num.cell (i := 0) (v := .int .i64 ((c + 1 : Nat) : Int)) rfl
  have ecast : ((c + 1 : Nat) : Int) = (c : Int) + 1 := by omega
  rw [ecast] at n1
  have hlt := h.num.lt
  have hbn : w.heap.size ≠ nb := by omega
  have k0 : ((w.alloc (.cells #[.int .i64 b.kind, .int .i64 b.label, .slice a b.kids.length cap] 24)).setCell ⟨nb, 0, none⟩ (.int .i64 ((c : Int) + 1))).cell? ⟨w.heap.size, 0, none⟩ = some (.int .i64 b.kind) := (World.cell?_of_block (Below.heap_setCell _ ⟨nb, 0, none⟩ _ w.heap.size hbn)).trans b0
  have k1 : ((w.alloc (.cells #[.int .i64 b.kind, .int .i64 b.label, .slice a b.kids.length cap] 24)).setCell ⟨nb, 0, none⟩ (.int .i64 ((c : Int) + 1))).cell? ⟨w.heap.size, 1, none⟩ = some (.int .i64 b.label) := (World.cell?_of_block (Below.heap_setCell _ ⟨nb, 0, none⟩ _ w.heap.size hbn)).trans b1
  have k2 : ((w.alloc (.cells #[.int .i64 b.kind, .int .i64 b.label, .slice a b.kids.length cap] 24)).setCell ⟨nb, 0, none⟩ (.int .i64 ((c : Int) + 1))).cell? ⟨w.heap.size, 2, none⟩ = some (.slice a b.kids.length cap) := (World.cell?_of_block (Below.heap_setCell _ ⟨nb, 0, none⟩ _ w.heap.size hbn)).trans b2
  clear b0 b1 b2 ecast hlt hbn
  rw [hk] at k0 k1 k2 n0 n1 f0 E2 ⊢
  go_enter Try.func54, Try.ntmps54
  go_wp2_with fail
  go_ret
  exact RetC.mk HF.out E2
set_option maxHeartbeats 4000000 in
set_option maxRecDepth 100000 in
theorem check_kid3 {w0 : World} {nb vb n : Nat} {b : BlockD} {a : Option Addr} {cap : Nat} {w : World} {c : Nat} (h : EnvC w0 nb vb c w) (hc : c ≤ 40) (h40 : ¬ 40 < c + 1) (hk : b.kind = 3) (hx : b.kids.length = 0) : Calls Try.prog 54 #[.agg #[.int .i64 b.kind, .int .i64 b.label, .slice a b.kids.length cap], .pointer (some ⟨nb, 0, none⟩), .pointer (some ⟨vb, 0, none⟩)] w (RetC w0 nb vb (checkF (n + 1) b c)) := by
  have HF := Lib.hid (check_bad (n := n) h40 (form_kids (b := b) (by omega) (by omega) (by omega)) (by decide))
  have hI : ¬ (40 : Int) < (c : Int) + 1 := by omega
  have hy : True := trivial
  have GB := (Gr.refl w).alloc (.cells #[.int .i64 b.kind, .int .i64 b.label, .slice a b.kids.length cap] 24)
  have b0 : (w.alloc (.cells #[.int .i64 b.kind, .int .i64 b.label, .slice a b.kids.length cap] 24)).cell? ⟨w.heap.size, 0, none⟩ = some (.int .i64 b.kind) := box_cell (Gr.refl _) (i := 0) rfl
  have b1 : (w.alloc (.cells #[.int .i64 b.kind, .int .i64 b.label, .slice a b.kids.length cap] 24)).cell? ⟨w.heap.size, 1, none⟩ = some (.int .i64 b.label) := box_cell (Gr.refl _) (i := 1) rfl
  have b2 : (w.alloc (.cells #[.int .i64 b.kind, .int .i64 b.label, .slice a b.kids.length cap] 24)).cell? ⟨w.heap.size, 2, none⟩ = some (.slice a b.kids.length cap) := box_cell (Gr.refl _) (i := 2) rfl
  have E1 := h.gr' GB
  have n0 := E1.num.cell (i := 0) (v := .int .i64 (c : Int)) rfl
  have f0 := E1.num.frozen 0
  have E2 := E1.put
  have n1 := E2.num.cell (i := 0) (v := .int .i64 ((c + 1 : Nat) : Int)) rfl
  have ecast : ((c + 1 : Nat) : Int) = (c : Int) + 1 := by omega
  rw [ecast] at n1
  have hlt := h.num.lt
  have hbn : w.heap.size ≠ nb := by omega
  have k0 : ((w.alloc (.cells #[.int .i64 b.kind, .int .i64 b.label, .slice a b.kids.length cap] 24)).setCell ⟨nb, 0, none⟩ (.int .i64 ((c : Int) + 1))).cell? ⟨w.heap.size, 0, none⟩ = some (.int .i64 b.kind) := (World.cell?_of_block (Below.heap_setCell _ ⟨nb, 0, none⟩ _ w.heap.size hbn)).trans b0
  have k1 : ((w.alloc (.cells #[.int .i64 b.kind, .int .i64 b.label, .slice a b.kids.length cap] 24)).setCell ⟨nb, 0, none⟩ (.int .i64 ((c : Int) + 1))).cell? ⟨w.heap.size, 1, none⟩ = some (.int .i64 b.label) := (World.cell?_of_block (Below.heap_setCell _ ⟨nb, 0, none⟩ _ w.heap.size hbn)).trans b1
  have k2 : ((w.alloc (.cells #[.int .i64 b.kind, .int .i64 b.label, .slice a b.kids.length cap] 24)).setCell ⟨nb, 0, none⟩ (.int .i64 ((c : Int) + 1))).cell? ⟨w.heap.size, 2, none⟩ = some (.slice a b.kids.length cap) := (World.cell?_of_block (Below.heap_setCell _ ⟨nb, 0, none⟩ _ w.heap.size hbn)).trans b2
  clear b0 b1 b2 ecast hlt hbn
  rw [hk] at k0 k1 k2 n0 n1 f0 E2 ⊢
  rw [hx] at k0 k1 k2 n0 n1 f0 E2 ⊢
  go_enter Try.func54, Try.ntmps54
  go_wp2_with fail
  go_ret
  exact RetC.mk HF.out E2
set_option maxHeartbeats 4000000 in
set_option maxRecDepth 100000 in
theorem check_kid4 {w0 : World} {nb vb n : Nat} {b : BlockD} {a : Option Addr} {cap : Nat} {w : World} {c : Nat} (h : EnvC w0 nb vb c w) (hc : c ≤ 40) (h40 : ¬ 40 < c + 1) (hk : b.kind = 4) (hx : b.kids.length = 0) : Calls Try.prog 54 #[.agg #[.int .i64 b.kind, .int .i64 b.label, .slice a b.kids.length cap], .pointer (some ⟨nb, 0, none⟩), .pointer (some ⟨vb, 0, none⟩)] w (RetC w0 nb vb (checkF (n + 1) b c)) := by
  have HF := Lib.hid (check_bad (n := n) h40 (form_kids (b := b) (by omega) (by omega) (by omega)) (by decide))
  have hI : ¬ (40 : Int) < (c : Int) + 1 := by omega
  have hy : True := trivial
  have GB := (Gr.refl w).alloc (.cells #[.int .i64 b.kind, .int .i64 b.label, .slice a b.kids.length cap] 24)
  have b0 : (w.alloc (.cells #[.int .i64 b.kind, .int .i64 b.label, .slice a b.kids.length cap] 24)).cell? ⟨w.heap.size, 0, none⟩ = some (.int .i64 b.kind) := box_cell (Gr.refl _) (i := 0) rfl
  have b1 : (w.alloc (.cells #[.int .i64 b.kind, .int .i64 b.label, .slice a b.kids.length cap] 24)).cell? ⟨w.heap.size, 1, none⟩ = some (.int .i64 b.label) := box_cell (Gr.refl _) (i := 1) rfl
  have b2 : (w.alloc (.cells #[.int .i64 b.kind, .int .i64 b.label, .slice a b.kids.length cap] 24)).cell? ⟨w.heap.size, 2, none⟩ = some (.slice a b.kids.length cap) := box_cell (Gr.refl _) (i := 2) rfl
  have E1 := h.gr' GB
  have n0 := E1.num.cell (i := 0) (v := .int .i64 (c : Int)) rfl
  have f0 := E1.num.frozen 0
  have E2 := E1.put
  have n1 := E2.num.cell (i := 0) (v := .int .i64 ((c + 1 : Nat) : Int)) rfl
  have ecast : ((c + 1 : Nat) : Int) = (c : Int) + 1 := by omega
  rw [ecast] at n1
  have hlt := h.num.lt
  have hbn : w.heap.size ≠ nb := by omega
  have k0 : ((w.alloc (.cells #[.int .i64 b.kind, .int .i64 b.label, .slice a b.kids.length cap] 24)).setCell ⟨nb, 0, none⟩ (.int .i64 ((c : Int) + 1))).cell? ⟨w.heap.size, 0, none⟩ = some (.int .i64 b.kind) := (World.cell?_of_block (Below.heap_setCell _ ⟨nb, 0, none⟩ _ w.heap.size hbn)).trans b0
  have k1 : ((w.alloc (.cells #[.int .i64 b.kind, .int .i64 b.label, .slice a b.kids.length cap] 24)).setCell ⟨nb, 0, none⟩ (.int .i64 ((c : Int) + 1))).cell? ⟨w.heap.size, 1, none⟩ = some (.int .i64 b.label) := (World.cell?_of_block (Below.heap_setCell _ ⟨nb, 0, none⟩ _ w.heap.size hbn)).trans b1
  have k2 : ((w.alloc (.cells #[.int .i64 b.kind, .int .i64 b.label, .slice a b.kids.length cap] 24)).setCell ⟨nb, 0, none⟩ (.int .i64 ((c : Int) + 1))).cell? ⟨w.heap.size, 2, none⟩ = some (.slice a b.kids.length cap) := (World.cell?_of_block (Below.heap_setCell _ ⟨nb, 0, none⟩ _ w.heap.size hbn)).trans b2
  clear b0 b1 b2 ecast hlt hbn
  rw [hk] at k0 k1 k2 n0 n1 f0 E2 ⊢
  rw [hx] at k0 k1 k2 n0 n1 f0 E2 ⊢
  go_enter Try.func54, Try.ntmps54
  go_wp2_with fail
  go_ret
  exact RetC.mk HF.out E2
set_option maxHeartbeats 4000000 in
set_option maxRecDepth 100000 in
theorem check_kid5 {w0 : World} {nb vb n : Nat} {b : BlockD} {a : Option Addr} {cap : Nat} {w : World} {c : Nat} (h : EnvC w0 nb vb c w) (hc : c ≤ 40) (h40 : ¬ 40 < c + 1) (hk : b.kind = 5) (hx : b.kids.length = 0) : Calls Try.prog 54 #[.agg #[.int .i64 b.kind, .int .i64 b.label, .slice a b.kids.length cap], .pointer (some ⟨nb, 0, none⟩), .pointer (some ⟨vb, 0, none⟩)] w (RetC w0 nb vb (checkF (n + 1) b c)) := by
  have HF := Lib.hid (check_bad (n := n) h40 (form_kids (b := b) (by omega) (by omega) (by omega)) (by decide))
  have hI : ¬ (40 : Int) < (c : Int) + 1 := by omega
  have hy : True := trivial
  have GB := (Gr.refl w).alloc (.cells #[.int .i64 b.kind, .int .i64 b.label, .slice a b.kids.length cap] 24)
  have b0 : (w.alloc (.cells #[.int .i64 b.kind, .int .i64 b.label, .slice a b.kids.length cap] 24)).cell? ⟨w.heap.size, 0, none⟩ = some (.int .i64 b.kind) := box_cell (Gr.refl _) (i := 0) rfl
  have b1 : (w.alloc (.cells #[.int .i64 b.kind, .int .i64 b.label, .slice a b.kids.length cap] 24)).cell? ⟨w.heap.size, 1, none⟩ = some (.int .i64 b.label) := box_cell (Gr.refl _) (i := 1) rfl
  have b2 : (w.alloc (.cells #[.int .i64 b.kind, .int .i64 b.label, .slice a b.kids.length cap] 24)).cell? ⟨w.heap.size, 2, none⟩ = some (.slice a b.kids.length cap) := box_cell (Gr.refl _) (i := 2) rfl
  have E1 := h.gr' GB
  have n0 := E1.num.cell (i := 0) (v := .int .i64 (c : Int)) rfl
  have f0 := E1.num.frozen 0
  have E2 := E1.put
  have n1 := E2.num.cell (i := 0) (v := .int .i64 ((c + 1 : Nat) : Int)) rfl
  have ecast : ((c + 1 : Nat) : Int) = (c : Int) + 1 := by omega
  rw [ecast] at n1
  have hlt := h.num.lt
  have hbn : w.heap.size ≠ nb := by omega
  have k0 : ((w.alloc (.cells #[.int .i64 b.kind, .int .i64 b.label, .slice a b.kids.length cap] 24)).setCell ⟨nb, 0, none⟩ (.int .i64 ((c : Int) + 1))).cell? ⟨w.heap.size, 0, none⟩ = some (.int .i64 b.kind) := (World.cell?_of_block (Below.heap_setCell _ ⟨nb, 0, none⟩ _ w.heap.size hbn)).trans b0
  have k1 : ((w.alloc (.cells #[.int .i64 b.kind, .int .i64 b.label, .slice a b.kids.length cap] 24)).setCell ⟨nb, 0, none⟩ (.int .i64 ((c : Int) + 1))).cell? ⟨w.heap.size, 1, none⟩ = some (.int .i64 b.label) := (World.cell?_of_block (Below.heap_setCell _ ⟨nb, 0, none⟩ _ w.heap.size hbn)).trans b1
  have k2 : ((w.alloc (.cells #[.int .i64 b.kind, .int .i64 b.label, .slice a b.kids.length cap] 24)).setCell ⟨nb, 0, none⟩ (.int .i64 ((c : Int) + 1))).cell? ⟨w.heap.size, 2, none⟩ = some (.slice a b.kids.length cap) := (World.cell?_of_block (Below.heap_setCell _ ⟨nb, 0, none⟩ _ w.heap.size hbn)).trans b2
  clear b0 b1 b2 ecast hlt hbn
  rw [hk] at k0 k1 k2 n0 n1 f0 E2 ⊢
  rw [hx] at k0 k1 k2 n0 n1 f0 E2 ⊢
  go_enter Try.func54, Try.ntmps54
  go_wp2_with fail
  go_ret
  exact RetC.mk HF.out E2
set_option maxHeartbeats 4000000 in
set_option maxRecDepth 100000 in
theorem check_kid6 {w0 : World} {nb vb n : Nat} {b : BlockD} {a : Option Addr} {cap : Nat} {w : World} {c : Nat} (h : EnvC w0 nb vb c w) (hc : c ≤ 40) (h40 : ¬ 40 < c + 1) (hk : b.kind = 6) (hx : b.kids.length ≠ 2) (hx0 : b.kids.length ≠ 0) : Calls Try.prog 54 #[.agg #[.int .i64 b.kind, .int .i64 b.label, .slice a b.kids.length cap], .pointer (some ⟨nb, 0, none⟩), .pointer (some ⟨vb, 0, none⟩)] w (RetC w0 nb vb (checkF (n + 1) b c)) := by
  have HF := Lib.hid (check_bad (n := n) h40 (form_kids (b := b) (by omega) (by omega) (by omega)) (by decide))
  have hI : ¬ (40 : Int) < (c : Int) + 1 := by omega
  have hz0 : ((b.kids.length : Int) == 0) = false := beq_eq_false_iff_ne.2 (by omega)
  have hz1 : ((b.kids.length : Int) != 2) = true := by simp; omega
  have hz2 : ((b.kids.length : Int) == 2) = false := beq_eq_false_iff_ne.2 (by omega)
  have GB := (Gr.refl w).alloc (.cells #[.int .i64 b.kind, .int .i64 b.label, .slice a b.kids.length cap] 24)
  have b0 : (w.alloc (.cells #[.int .i64 b.kind, .int .i64 b.label, .slice a b.kids.length cap] 24)).cell? ⟨w.heap.size, 0, none⟩ = some (.int .i64 b.kind) := box_cell (Gr.refl _) (i := 0) rfl
  have b1 : (w.alloc (.cells #[.int .i64 b.kind, .int .i64 b.label, .slice a b.kids.length cap] 24)).cell? ⟨w.heap.size, 1, none⟩ = some (.int .i64 b.label) := box_cell (Gr.refl _) (i := 1) rfl
  have b2 : (w.alloc (.cells #[.int .i64 b.kind, .int .i64 b.label, .slice a b.kids.length cap] 24)).cell? ⟨w.heap.size, 2, none⟩ = some (.slice a b.kids.length cap) := box_cell (Gr.refl _) (i := 2) rfl
  have E1 := h.gr' GB
  have n0 := E1.num.cell (i := 0) (v := .int .i64 (c : Int)) rfl
  have f0 := E1.num.frozen 0
  have E2 := E1.put
  have n1 := E2.num.cell (i := 0) (v := .int .i64 ((c + 1 : Nat) : Int)) rfl
  have ecast : ((c + 1 : Nat) : Int) = (c : Int) + 1 := by omega
  rw [ecast] at n1
  have hlt := h.num.lt
  have hbn : w.heap.size ≠ nb := by omega
  have k0 : ((w.alloc (.cells #[.int .i64 b.kind, .int .i64 b.label, .slice a b.kids.length cap] 24)).setCell ⟨nb, 0, none⟩ (.int .i64 ((c : Int) + 1))).cell? ⟨w.heap.size, 0, none⟩ = some (.int .i64 b.kind) := (World.cell?_of_block (Below.heap_setCell _ ⟨nb, 0, none⟩ _ w.heap.size hbn)).trans b0
  have k1 : ((w.alloc (.cells #[.int .i64 b.kind, .int .i64 b.label, .slice a b.kids.length cap] 24)).setCell ⟨nb, 0, none⟩ (.int .i64 ((c : Int) + 1))).cell? ⟨w.heap.size, 1, none⟩ = some (.int .i64 b.label) := (World.cell?_of_block (Below.heap_setCell _ ⟨nb, 0, none⟩ _ w.heap.size hbn)).trans b1
  have k2 : ((w.alloc (.cells #[.int .i64 b.kind, .int .i64 b.label, .slice a b.kids.length cap] 24)).setCell ⟨nb, 0, none⟩ (.int .i64 ((c : Int) + 1))).cell? ⟨w.heap.size, 2, none⟩ = some (.slice a b.kids.length cap) := (World.cell?_of_block (Below.heap_setCell _ ⟨nb, 0, none⟩ _ w.heap.size hbn)).trans b2
  clear b0 b1 b2 ecast hlt hbn
  rw [hk] at k0 k1 k2 n0 n1 f0 E2 ⊢
  go_enter Try.func54, Try.ntmps54
  go_wp2_with fail
  go_ret
  exact RetC.mk HF.out E2
set_option maxHeartbeats 4000000 in
set_option maxRecDepth 100000 in
theorem check_kid60 {w0 : World} {nb vb n : Nat} {b : BlockD} {a : Option Addr} {cap : Nat} {w : World} {c : Nat} (h : EnvC w0 nb vb c w) (hc : c ≤ 40) (h40 : ¬ 40 < c + 1) (hk : b.kind = 6) (hx : b.kids.length = 0) : Calls Try.prog 54 #[.agg #[.int .i64 b.kind, .int .i64 b.label, .slice a b.kids.length cap], .pointer (some ⟨nb, 0, none⟩), .pointer (some ⟨vb, 0, none⟩)] w (RetC w0 nb vb (checkF (n + 1) b c)) := by
  have HF := Lib.hid (check_bad (n := n) h40 (form_kids (b := b) (by omega) (by omega) (by omega)) (by decide))
  have hI : ¬ (40 : Int) < (c : Int) + 1 := by omega
  have GB := (Gr.refl w).alloc (.cells #[.int .i64 b.kind, .int .i64 b.label, .slice a b.kids.length cap] 24)
  have b0 : (w.alloc (.cells #[.int .i64 b.kind, .int .i64 b.label, .slice a b.kids.length cap] 24)).cell? ⟨w.heap.size, 0, none⟩ = some (.int .i64 b.kind) := box_cell (Gr.refl _) (i := 0) rfl
  have b1 : (w.alloc (.cells #[.int .i64 b.kind, .int .i64 b.label, .slice a b.kids.length cap] 24)).cell? ⟨w.heap.size, 1, none⟩ = some (.int .i64 b.label) := box_cell (Gr.refl _) (i := 1) rfl
  have b2 : (w.alloc (.cells #[.int .i64 b.kind, .int .i64 b.label, .slice a b.kids.length cap] 24)).cell? ⟨w.heap.size, 2, none⟩ = some (.slice a b.kids.length cap) := box_cell (Gr.refl _) (i := 2) rfl
  have E1 := h.gr' GB
  have n0 := E1.num.cell (i := 0) (v := .int .i64 (c : Int)) rfl
  have f0 := E1.num.frozen 0
  have E2 := E1.put
  have n1 := E2.num.cell (i := 0) (v := .int .i64 ((c + 1 : Nat) : Int)) rfl
  have ecast : ((c + 1 : Nat) : Int) = (c : Int) + 1 := by omega
  rw [ecast] at n1
  have hlt := h.num.lt
  have hbn : w.heap.size ≠ nb := by omega
  have k0 : ((w.alloc (.cells #[.int .i64 b.kind, .int .i64 b.label, .slice a b.kids.length cap] 24)).setCell ⟨nb, 0, none⟩ (.int .i64 ((c : Int) + 1))).cell? ⟨w.heap.size, 0, none⟩ = some (.int .i64 b.kind) := (World.cell?_of_block (Below.heap_setCell _ ⟨nb, 0, none⟩ _ w.heap.size hbn)).trans b0
  have k1 : ((w.alloc (.cells #[.int .i64 b.kind, .int .i64 b.label, .slice a b.kids.length cap] 24)).setCell ⟨nb, 0, none⟩ (.int .i64 ((c : Int) + 1))).cell? ⟨w.heap.size, 1, none⟩ = some (.int .i64 b.label) := (World.cell?_of_block (Below.heap_setCell _ ⟨nb, 0, none⟩ _ w.heap.size hbn)).trans b1
  have k2 : ((w.alloc (.cells #[.int .i64 b.kind, .int .i64 b.label, .slice a b.kids.length cap] 24)).setCell ⟨nb, 0, none⟩ (.int .i64 ((c : Int) + 1))).cell? ⟨w.heap.size, 2, none⟩ = some (.slice a b.kids.length cap) := (World.cell?_of_block (Below.heap_setCell _ ⟨nb, 0, none⟩ _ w.heap.size hbn)).trans b2
  clear b0 b1 b2 ecast hlt hbn
  rw [hk] at k0 k1 k2 n0 n1 f0 E2 ⊢
  rw [hx] at k0 k1 k2 n0 n1 f0 E2 ⊢
  go_enter Try.func54, Try.ntmps54
  go_wp2_with fail
  go_ret
  exact RetC.mk HF.out E2
end Go.Proofs.Ytajmccjnoejmfaa
