/- MineOrder: for every input the law returns true, and each argument reads behind the call as it read before. -/
import Derived.Test.YtagdccgbcmnehaaGreatQMRe
import Derived.Test.YtagdccgbcmnehaaGreatQMRl
import Derived.Test.YtagdccgbcmnehaaGreatQMRb
import Derived.Test.YtagdccgbcmnehaaGreatQMRd
import Derived.Deep.RegionHeld3
import Derived.Test.YtagdccgbcmnehaaGreatRows
import Derived.Test.YtagdccgbcmnehaaGreatQMRa
namespace Go.Tok
open Go.RowKit
set_option linter.unusedVariables false
def eqL (f : BlockD → BlockD → Bool) : List BlockD → List BlockD → Bool
  | [], [] => true
  | x :: xs, y :: ys => f x y && eqL f xs ys
  | _, _ => false
theorem eqL_iff {f : BlockD → BlockD → Bool} : ∀ {xs ys : List BlockD}, eqL f xs ys = true ↔ xs.length = ys.length ∧ ∀ i, i < xs.length → f (ix xs i) (ix ys i) = true
  | [], [] => by simp [eqL]
  | [], y :: ys => by simp [eqL]
  | x :: xs, [] => by simp [eqL]
  | x :: xs, y :: ys => by
    unfold eqL
    rw [Bool.and_eq_true, eqL_iff]
    constructor
    · rintro ⟨h1, h2, h3⟩
      refine ⟨by simp [h2], fun i hi => ?_⟩
      cases i with
      | zero => rw [ix_zero, ix_zero]; exact h1
      | succ i => rw [ix_succ, ix_succ]; exact h3 i (by simpa using hi)
    · rintro ⟨h1, h2⟩
      refine ⟨?_, by simpa using h1, fun i hi => ?_⟩
      · have := h2 0 (by simp); rwa [ix_zero, ix_zero] at this
      · have := h2 (i + 1) (by simpa using hi); rwa [ix_succ, ix_succ] at this
def sameBlk : Nat → BlockD → BlockD → Bool
  | 0, _, _ => false
  | n + 1, a, b => (a.kind == b.kind && a.label == b.label) && eqL (sameBlk n) a.kids b.kids
theorem sameBlk_succ (n : Nat) (a b : BlockD) : sameBlk (n + 1) a b = ((a.kind == b.kind && a.label == b.label) && eqL (sameBlk n) a.kids b.kids) := rfl
theorem sameBlk_iff : ∀ (n : Nat) (a b : BlockD), DepB n a → (sameBlk n a b = true ↔ a = b) := by
  intro n
  induction n with
  | zero => intro a b h; exact h.elim
  | succ n ih =>
    intro a b h
    obtain ⟨k, l, ks⟩ := a
    obtain ⟨k', l', ks'⟩ := b
    rw [sameBlk_succ, Bool.and_eq_true, Bool.and_eq_true, eqL_iff]
    simp only [BlockD.kind, BlockD.label, BlockD.kids, beq_iff_eq, BlockD.mk.injEq]
    have hk : ∀ x ∈ ks, DepB n x := h
    constructor
    · rintro ⟨⟨h1, h2⟩, h3, h4⟩
      exact ⟨h1, h2, ext_ix h3 fun i hi => (ih _ _ (hk _ (ix_mem hi))).1 (h4 i hi)⟩
    · rintro ⟨rfl, rfl, rfl⟩
      exact ⟨⟨rfl, rfl⟩, rfl, fun i hi => (ih _ _ (hk _ (ix_mem hi))).2 rfl⟩
end Go.Tok
namespace Go.Tok
open Go.RowKit
theorem dep_of_r : ∀ {n : Nat} {w : World} {v : Value} {b : BlockD}, BlockR n w v b → DepB (n + 1) b := by
  intro n
  induction n with
  | zero =>
    intro w v b h k hk
    obtain ⟨_, _, a, cap, _, _, _, hB⟩ := h.open_
    obtain ⟨i, hi, rfl⟩ := List.getElem_of_mem hk
    obtain ⟨m, _, _, _, hm, _⟩ := kid_at hB hi
    cases hm
  | succ n ih =>
    intro w v b h k hk
    obtain ⟨_, _, a, cap, _, _, _, hB⟩ := h.open_
    obtain ⟨i, hi, rfl⟩ := List.getElem_of_mem hk
    obtain ⟨m, _, _, _, hm, _, _, _, _, hr⟩ := kid_at hB hi
    cases hm
    rw [ix_lt hi] at hr
    exact ih hr
end Go.Tok
namespace Go.Proofs.YtagdccgbcmnehaaGreat
open Go.RowKit Go.Tok
set_option linter.unusedVariables false
def SameOk (n : Nat) : Prop := ∀ (v u : Value) (a b : BlockD) (w : World), BlockR n w v a → BlkW w u b → Calls Tryz.prog 27 #[v, u] w fun e w' => e = .returned (.bool (sameBlk (n + 1) a b)) ∧ Gr w w'
set_option maxHeartbeats 1000000 in
set_option maxRecDepth 100000 in
theorem EqualFuncB_calls (n : Nat) (hS : ∀ m, n = m + 1 → SameOk m) (v u : Value) (xs ys : List BlockD) (w : World) (hv : Rd (blkK n) w v xs) (hu : Rd blkW w u ys) :
    Calls Tryz.prog 65 #[v, u, .func (.func 27) #[] #[]] w fun e w' => e = .returned (.bool (eqL (sameBlk n) xs ys)) ∧ Gr w w' := by
  obtain ⟨a, cap, rfl, hlc, hcap⟩ := hv.len
  obtain ⟨a', cap', rfl, hlc', hcap'⟩ := hu.len
  have eg : ∀ args w, (callFunc 27 args).run Tryz.prog w = .ok (.enter 27 args) w := (Go.Proofs.enters_of Tryz.func27 (by kernel_rfl) rfl)
  by_cases hl : xs.length = ys.length
  · have HL := Lib.hid hl
    have q0 : ((xs.length : Int) != (ys.length : Int)) = false := by simp [hl]
    clear hl
    go_enter Tryz.func65, Tryz.ntmps65
    go_wp2_with fail
    go_loopw [17] (fun i wr => ∃ k : Nat, k ≤ xs.length ∧ i = .int .i64 k ∧ Gr w wr ∧ Hid (∀ j, j < k → sameBlk n (ix xs j) (ix ys j) = true)) (fun i _ => xs.length - (intOf i).toNat)
    case atStart => exact ⟨0, Nat.zero_le _, rfl, Gr.refl _, Lib.hid fun j hj => absurd hj (Nat.not_lt_zero _)⟩
    case round =>
      rename World => wr
      obtain ⟨k, hk, rfl, hgr, HA⟩ := hrel
      by_cases hlt : k < xs.length
      · have hlt' : k < ys.length := by have := HL.out; omega
        obtain ⟨m, b, o, s, hm, rfl, c0, c1, c2, hx⟩ := kid_at (hv.gr hgr) hlt
        obtain ⟨b', o', s', rfl, d0, d1, d2, hy⟩ := kid_atW (hu.gr hgr) hlt'
        obtain ⟨_, _, sa, sc, e1, _, _, _⟩ := hx.open_
        obtain ⟨_, _, sa', sc', e2, _, _, _⟩ := hy.open_
        have es : s = .slice sa (ix xs k).kids.length sc := by
          have := congrArg (fun v => match v with | Value.agg cs => cs.toList | _ => []) e1
          simp at this; exact this
        have es' : s' = .slice sa' (ix ys k).kids.length sc' := by
          have := congrArg (fun v => match v with | Value.agg cs => cs.toList | _ => []) e2
          simp at this; exact this
        subst es es'
        obtain ⟨x, hxe⟩ : ∃ x, x = ix xs k := ⟨_, rfl⟩
        obtain ⟨y, hye⟩ : ∃ y, y = ix ys k := ⟨_, rfl⟩
        rw [← hxe] at c0 c1 c2 hx
        rw [← hye] at d0 d1 d2 hy
        have HE := Lib.hid (And.intro hxe hye)
        have HM := Lib.hid hm
        have hkI : (k : Int) < (xs.length : Int) := by omega
        have hkI' : (k : Int) < (ys.length : Int) := by omega
        have hk0 : (0 : Int) ≤ (k : Int) := by omega
        have g2 : Gr wr ((wr.alloc (.cells #[.int .i64 x.kind, .int .i64 x.label, .slice sa x.kids.length sc] 55)).alloc (.cells #[.int .i64 y.kind, .int .i64 y.label, .slice sa' y.kids.length sc'] 55)) := ((Gr.refl _).alloc _).alloc _
        have hcall := hS m hm _ _ x y _ (hx.gr g2) (hy.gr g2)
        rw [← hm] at hcall
        have d0' := cell_gr d0 ((Gr.refl wr).alloc (.cells #[.int .i64 x.kind, .int .i64 x.label, .slice sa x.kids.length sc] 55))
        have d1' := cell_gr d1 ((Gr.refl wr).alloc (.cells #[.int .i64 x.kind, .int .i64 x.label, .slice sa x.kids.length sc] 55))
        have d2' := cell_gr d2 ((Gr.refl wr).alloc (.cells #[.int .i64 x.kind, .int .i64 x.label, .slice sa x.kids.length sc] 55))
        have bx : Blk ((wr.alloc (.cells #[.int .i64 x.kind, .int .i64 x.label, .slice sa x.kids.length sc] 55)).alloc (.cells #[.int .i64 y.kind, .int .i64 y.label, .slice sa' y.kids.length sc'] 55)) wr.heap.size 55 #[.int .i64 x.kind, .int .i64 x.label, .slice sa x.kids.length sc] := (Blk.new rfl).gr ((Gr.refl _).alloc _)
        have x0 := bx.cell (i := 0) rfl
        have x1 := bx.cell (i := 1) rfl
        have x2 := bx.cell (i := 2) rfl
        have HG2 := Lib.hid g2
        clear hxe hye e1 e2 hm hx hy bx d0 d1 d2 g2
        cases hs : sameBlk n x y
        · rw [hs] at hcall
          have HR : Hid (eqL (sameBlk n) xs ys = false) := Lib.hid (by
            rw [Bool.eq_false_iff]
            intro h
            have := (eqL_iff.1 h).2 k hlt
            rw [← HE.out.1, ← HE.out.2, hs] at this; cases this)
          have HC := Lib.hid hcall
          clear hs hcall
          go_wp2_with (go_at_fn 27; refine HC.out.mono ?_; rintro e w' ⟨rfl, g3⟩)
          go_ret
          exact ⟨ret_bool HR.out.symm, hgr.trans (HG2.out.trans g3)⟩
        · rw [hs] at hcall
          have HN : Hid (∀ j, j < k + 1 → sameBlk n (ix xs j) (ix ys j) = true) := Lib.hid (fun j hj => by
            by_cases e : j = k
            · subst e; rw [← HE.out.1, ← HE.out.2]; exact hs
            · exact HA.out j (by omega))
          have HC := Lib.hid hcall
          clear hs hcall
          go_wp2_with (go_at_fn 27; refine HC.out.mono ?_; rintro e w' ⟨rfl, g3⟩)
          go_roundw
          case rel => exact ⟨k + 1, by omega, by go_num, hgr.trans (HG2.out.trans g3), HN⟩
          case measure => simp [intOf]; omega
      · obtain rfl : k = xs.length := by omega
        have HR : Hid (eqL (sameBlk n) xs ys = true) := Lib.hid (eqL_iff.2 ⟨HL.out, HA.out⟩)
        go_wp2_with fail
        go_ret
        exact ⟨ret_bool HR.out.symm, hgr⟩
  · have HR : Hid (eqL (sameBlk n) xs ys = false) := Lib.hid (by
      rw [Bool.eq_false_iff]
      intro h
      exact hl (eqL_iff.1 h).1)
    have q0 : ((xs.length : Int) != (ys.length : Int)) = true := by simp; omega
    clear hl
    go_enter Tryz.func65, Tryz.ntmps65
    go_wp2_with fail
    go_ret
    exact ⟨ret_bool HR.out.symm, Gr.refl _⟩
set_option maxHeartbeats 1000000 in
set_option maxRecDepth 100000 in
theorem same_step (n : Nat) (hS : ∀ m, n = m + 1 → SameOk m) : SameOk n := by
  intro v u a b w hv hu
  obtain ⟨h1, h2, sa, sc, rfl, _, _, hB⟩ := hv.open_
  obtain ⟨h3, h4, sb, sd, rfl, _, _, hC⟩ := hu.open_
  have GA : Gr w ((w.alloc (.cells #[.int .i64 a.kind, .int .i64 a.label, .slice sa a.kids.length sc] 55)).alloc (.cells #[.int .i64 b.kind, .int .i64 b.label, .slice sb b.kids.length sd] 55)) := ((Gr.refl _).alloc _).alloc _
  have ba : Blk ((w.alloc (.cells #[.int .i64 a.kind, .int .i64 a.label, .slice sa a.kids.length sc] 55)).alloc (.cells #[.int .i64 b.kind, .int .i64 b.label, .slice sb b.kids.length sd] 55)) w.heap.size 55 #[.int .i64 a.kind, .int .i64 a.label, .slice sa a.kids.length sc] := (Blk.new rfl).gr ((Gr.refl _).alloc _)
  have bb : Blk ((w.alloc (.cells #[.int .i64 a.kind, .int .i64 a.label, .slice sa a.kids.length sc] 55)).alloc (.cells #[.int .i64 b.kind, .int .i64 b.label, .slice sb b.kids.length sd] 55)) (w.heap.size + 1) 55 #[.int .i64 b.kind, .int .i64 b.label, .slice sb b.kids.length sd] := Blk.new (by simp)
  have a0 := ba.cell (i := 0) rfl
  have a1 := ba.cell (i := 1) rfl
  have a2 := ba.cell (i := 2) rfl
  have b0 := bb.cell (i := 0) rfl
  have b1 := bb.cell (i := 1) rfl
  have b2 := bb.cell (i := 2) rfl
  have HE := Lib.hid (EqualFuncB_calls n hS _ _ a.kids b.kids _ (hB.gr GA) (hC.gr GA))
  have HG := Lib.hid GA
  clear hv hu hB hC ba bb GA
  by_cases hk : a.kind = b.kind
  · have q1 : (a.kind == b.kind) = true := by simpa using hk
    by_cases hl : a.label = b.label
    · have q2 : (a.label == b.label) = true := by simpa using hl
      have HR : Hid (sameBlk (n + 1) a b = eqL (sameBlk n) a.kids b.kids) := Lib.hid (by rw [sameBlk_succ, q1, q2]; rfl)
      clear hk hl
      go_enter Tryz.func27, Tryz.ntmps27
      go_wp2_with fail
      refine HE.out.mono ?_
      rintro _ w2 ⟨rfl, g2⟩
      go_wp2_with fail
      go_ret
      exact ⟨ret_bool HR.out.symm, HG.out.trans g2⟩
    · have q2 : (a.label == b.label) = false := by simpa using hl
      have HR : Hid (sameBlk (n + 1) a b = false) := Lib.hid (by rw [sameBlk_succ, q1, q2]; rfl)
      clear hk hl
      go_enter Tryz.func27, Tryz.ntmps27
      go_wp2_with fail
      go_ret
      exact ⟨ret_bool HR.out.symm, HG.out⟩
  · have q1 : (a.kind == b.kind) = false := by simpa using hk
    have HR : Hid (sameBlk (n + 1) a b = false) := Lib.hid (by rw [sameBlk_succ, q1]; rfl)
    clear hk
    go_enter Tryz.func27, Tryz.ntmps27
    go_wp2_with fail
    go_ret
    exact ⟨ret_bool HR.out.symm, HG.out⟩
theorem same_ok : ∀ n, SameOk n
  | 0 => same_step 0 fun m h => by cases h
  | n + 1 => same_step (n + 1) fun m h => by cases h; exact same_ok n
/-- two blocks at hand -/
theorem SameBlock_calls (v u : Value) (a b : BlockD) (w : World) (hv : BlkW w v a) (hu : BlkW w u b) : Calls Tryz.prog 27 #[v, u] w fun e w' => ∃ r, e = .returned (.bool r) ∧ (r = true ↔ a = b) ∧ Gr w w' := by
  obtain ⟨n, hn⟩ := hv
  refine (same_ok n v u a b w hn hu).mono ?_
  rintro _ w2 ⟨rfl, g2⟩
  exact ⟨_, rfl, sameBlk_iff (n + 1) a b (dep_of_r hn), g2⟩
end Go.Proofs.YtagdccgbcmnehaaGreat

namespace Go.Tok
set_option linter.unusedVariables false
def log23 : List (List Int) := [[1, 2, 3, 4], [1, 3, 2, 4]]
def blk23 : BlockD := manyD 3 [stepD 1, manyD 5 [stepD 2, stepD 3], stepD 4]
theorem mine23 : mineF log23 = (blk23, 0) := by kernel_rfl
end Go.Tok
namespace Go.Proofs.YtagdccgbcmnehaaGreat
open Go.RowKit Go.Tok
set_option linter.unusedVariables false
theorem BlkF.lit3 {m : Nat} {w : World} {k : Int} {x y z : BlockD} {a1 a2 a3 b1 b2 b3 c1 c2 c3 : Value} (hx : BlkF m w (.agg #[a1, a2, a3]) x) (hy : BlkF m w (.agg #[b1, b2, b3]) y) (hz : BlkF m w (.agg #[c1, c2, c3]) z) (hm : m ≤ w.heap.size) (hk : I64 k) :
    BlkF m (w.alloc (.cells #[a1, a2, a3, b1, b2, b3, c1, c2, c3] 55)) (.agg #[.int .i64 k, .int .i64 0, .slice (some ⟨w.heap.size, 0, none⟩) 3 3]) (manyD k [x, y, z]) := by
  refine BlkF.of (base := w.heap.size) (S := fun b => m ≤ b) ?_ hk (fun b hb => hb) hm
  refine OwnR.lit [(x, [a1, a2, a3]), (y, [b1, b2, b3]), (z, [c1, c2, c3])] rfl rfl rfl rfl rfl (by simp) (Nat.le_refl _) fun r hr => ?_
  rcases List.mem_cons.1 hr with rfl | hr
  · exact hx.cellsA.mono fun b hb h => ⟨h, by omega⟩
  rcases List.mem_cons.1 hr with rfl | hr
  · exact hy.cellsA.mono fun b hb h => ⟨h, by omega⟩
  · rw [List.mem_singleton.1 hr]
    exact hz.cellsA.mono fun b hb h => ⟨h, by omega⟩
theorem BlkF.stp {m : Nat} {w : World} {a : Int} (h : I64 a) : BlkF m w (.agg #[.int .i64 2, .int .i64 a, .slice none 0 0]) (stepD a) := BlkF.flat (k := 2) (l := a) (by decide) h
theorem BlkW.agg {w : World} {v : Value} {b : BlockD} (h : BlkW w v b) : ∃ a cap, v = .agg #[.int .i64 b.kind, .int .i64 b.label, .slice a b.kids.length cap] := by
  obtain ⟨_, _, a, cap, e, _⟩ := h.open_
  exact ⟨a, cap, e⟩
theorem SameBlock_yes (v u : Value) (a b : BlockD) (w : World) (h : a = b) (hv : BlkW w v a) (hu : BlkW w u b) : Calls Tryz.prog 27 #[v, u] w fun e w' => e = .returned (.bool true) ∧ Gr w w' := by
  refine (SameBlock_calls v u a b w hv hu).mono ?_
  rintro _ w' ⟨r, rfl, hr, g⟩
  rw [hr.2 h]
  exact ⟨rfl, g⟩
/-- two rows of ints -/
theorem rows_two {w : World} {H : Nat} {p q : Value} {a b : List Int} (hH : w.heap.size = H) (hp : Ints w p a) (hq : Ints w q b) : Rd rowK (w.alloc (.cells #[p, q] 24)) (.slice (some ⟨H, 0, none⟩) 2 2) [a, b] := by
  subst hH
  refine rd_mk (a := some ⟨w.heap.size, 0, none⟩) (cap := 2) rfl (by simp) (by unfold maxLen; omega) (by simp) fun i hi => ?_
  rcases i with _ | _ | i
  · rw [ix_zero]
    refine ⟨w.heap.size, 0, [p], rfl, ⟨p, rfl, hp.gr ((Gr.refl _).alloc _)⟩, fun j u hj => ?_⟩
    match j, hj with
    | 0, hj => cases hj; exact box_cell (Gr.refl _) (i := 0) rfl
  · rw [show ix [a, b] (0 + 1) = b by rw [ix_succ, ix_zero]]
    refine ⟨w.heap.size, 0, [q], rfl, ⟨q, rfl, hq.gr ((Gr.refl _).alloc _)⟩, fun j u hj => ?_⟩
    match j, hj with
    | 0, hj => cases hj; exact box_cell (Gr.refl _) (i := 1) rfl
  · simp at hi; omega
set_option maxHeartbeats 1000000 in
set_option maxRecDepth 100000 in
theorem alive23_calls (w : World) : Calls Tryz.prog 18 #[] w fun e w' => e = .returned (.bool true) ∧ Gr w w' := by
  have i1 : Ints (w.alloc (.cells #[.int .i64 1, .int .i64 2, .int .i64 3, .int .i64 4] 3)) (.slice (some ⟨w.heap.size, 0, none⟩) 4 4) [1, 2, 3, 4] := Ints.lit rfl rfl rfl rfl (by decide) (by simp)
  have i2 : Ints ((w.alloc (.cells #[.int .i64 1, .int .i64 2, .int .i64 3, .int .i64 4] 3)).alloc (.cells #[.int .i64 1, .int .i64 3, .int .i64 2, .int .i64 4] 3)) (.slice (some ⟨w.heap.size + 1, 0, none⟩) 4 4) [1, 3, 2, 4] := Ints.lit (by simp) rfl rfl rfl (by decide) (by simp)
  have hR : Rd rowK (((w.alloc (.cells #[.int .i64 1, .int .i64 2, .int .i64 3, .int .i64 4] 3)).alloc (.cells #[.int .i64 1, .int .i64 3, .int .i64 2, .int .i64 4] 3)).alloc (.cells #[.slice (some ⟨w.heap.size, 0, none⟩) 4 4, .slice (some ⟨w.heap.size + 1, 0, none⟩) 4 4] 24)) (.slice (some ⟨w.heap.size + 1 + 1, 0, none⟩) 2 2) log23 := rows_two (by simp) (i1.gr ((Gr.refl _).alloc _)) i2
  have HM := Lib.hid (Mine_calls _ log23 _ hR)
  rw [mine23] at HM
  have G0 : Gr w (((w.alloc (.cells #[.int .i64 1, .int .i64 2, .int .i64 3, .int .i64 4] 3)).alloc (.cells #[.int .i64 1, .int .i64 3, .int .i64 2, .int .i64 4] 3)).alloc (.cells #[.slice (some ⟨w.heap.size, 0, none⟩) 4 4, .slice (some ⟨w.heap.size + 1, 0, none⟩) 4 4] 24)) := (((Gr.refl _).alloc _).alloc _).alloc _
  clear i1 i2 hR
  go_enter Tryz.func18, Tryz.ntmps18
  go_wp2_with fail
  refine HM.out.mono ?_
  rintro _ w2 hret
  unfold RetMine at hret
  obtain ⟨vb, rfl, hf, g2⟩ := hret
  have hb : BlkW w2 vb blk23 := hf.now
  obtain ⟨va, vc, rfl⟩ := BlkW.agg hb
  obtain ⟨bb, hbb⟩ : ∃ b, b = blk23 := ⟨_, rfl⟩
  rw [← hbb] at hb ⊢
  have HBB := Lib.hid hbb
  have k1 : Blk (w2.alloc (.cells #[.int .i64 bb.kind, .int .i64 bb.label, .slice va bb.kids.length vc] 55)) w2.heap.size 55 #[.int .i64 bb.kind, .int .i64 bb.label, .slice va bb.kids.length vc] := Blk.new rfl
  have g3 : Gr w2 (w2.alloc (.cells #[.int .i64 bb.kind, .int .i64 bb.label, .slice va bb.kids.length vc] 55)) := (Gr.refl _).alloc _
  have HB := Lib.hid (hb.gr g3)
  have HG := Lib.hid (G0.trans (g2.trans g3))
  have s0 := k1.cell (i := 0) rfl
  have s1 := k1.cell (i := 1) rfl
  have s2 := k1.cell (i := 2) rfl
  clear hf hb hbb k1 HM g2 g3 G0
  go_wp2_with fail
  go_region_held3 (fun w' => w'.cell? ⟨w2.heap.size, 0, none⟩ = some (.int .i64 bb.kind) ∧ w'.cell? ⟨w2.heap.size, 1, none⟩ = some (.int .i64 bb.label) ∧ w'.cell? ⟨w2.heap.size, 2, none⟩ = some (.slice va bb.kids.length vc)) (first | exact ⟨cell_gr s0 (by (repeat (first | exact Gr.refl _ | assumption | apply Gr.alloc | apply Gr.drew | apply Gr.drewN | refine Gr.trans ?_ (by assumption)))), cell_gr s1 (by (repeat (first | exact Gr.refl _ | assumption | apply Gr.alloc | apply Gr.drew | apply Gr.drewN | refine Gr.trans ?_ (by assumption)))), cell_gr s2 (by (repeat (first | exact Gr.refl _ | assumption | apply Gr.alloc | apply Gr.drew | apply Gr.drewN | refine Gr.trans ?_ (by assumption))))⟩ | go_keep) (first | (go_at_call 54; (with_reducible refine (kstep_calls _ _).mono ?_); rintro _ wk ⟨rfl, gk⟩) | (go_at_call 53; (with_reducible refine (kmany_calls 5 _ 2 2 _).mono ?_); rintro _ w5 ⟨rfl, g5⟩; (have hB := BlkF.gr (BlkF.lit2 (m := 0) (k := 5) (x := stepD 2) (y := stepD 3) (BlkF.stp (by decide)) (BlkF.stp (by decide)) (Nat.zero_le _) (by decide)) g5)) | (go_at_call 53; (with_reducible refine (kmany_calls 3 _ 3 3 _).mono ?_); rintro _ w6 ⟨rfl, g6⟩; (have hC := BlkF.gr (BlkF.lit3 (m := 0) (k := 3) (x := stepD 1) (z := stepD 4) (BlkF.stp (by decide)) (BlkF.gr hB gk) (BlkF.stp (by decide)) (Nat.zero_le _) (by decide)) g6)) | (go_at_call 27; ((refine (SameBlock_yes _ _ bb blk23 _ HBB.out (HB.out.gr ?_) (BlkW.gr hC.now ?_)).mono ?_); ((focus ((repeat (first | exact Gr.refl _ | assumption | apply Gr.alloc | apply Gr.drew | apply Gr.drewN | refine Gr.trans ?_ (by assumption))); done))); ((focus ((repeat (first | exact Gr.refl _ | assumption | apply Gr.alloc | apply Gr.drew | apply Gr.drewN | refine Gr.trans ?_ (by assumption))); done))); rintro _ w9 ⟨rfl, g9⟩)))
  all_goals (go_wp2_with fail; go_ret)
  all_goals exact ⟨rfl, HG.out.trans (by (repeat (first | exact Gr.refl _ | assumption | apply Gr.alloc | apply Gr.drew | apply Gr.drewN | refine Gr.trans ?_ (by assumption))))⟩
end Go.Proofs.YtagdccgbcmnehaaGreat

namespace Go.Proofs.YtagdccgbcmnehaaGreat
open Go.RowKit Go.Tok
set_option linter.unusedVariables false
/-- the first k and the last k have changed places -/
def RevI (d dk : Array RowV) (k : Nat) : Prop := dk.size = d.size ∧ ∀ i, i < d.size → dk[i]! = if i < k ∨ d.size ≤ i + k then d[d.size - 1 - i]! else d[i]!
theorem RevI.zero (d : Array RowV) : RevI d d 0 := ⟨rfl, fun i hi => by rw [if_neg (by omega)]⟩
theorem RevI.step {d dk : Array RowV} {k j : Nat} (h : RevI d dk k) (hj : j = d.size - 1 - k) (hlt : 2 * k + 1 < d.size) : RevI d ((dk.setIfInBounds k d[j]!).setIfInBounds j d[k]!) (k + 1) := by
  refine ⟨by simp [h.1], fun i hi => ?_⟩
  have hsz := h.1
  by_cases e1 : i = j
  · subst e1
    have e2 : ((dk.setIfInBounds k d[i]!).setIfInBounds i d[k]!)[i]! = d[k]! := by simp [hsz, hi]
    rw [e2, if_pos (by omega), show d.size - 1 - i = k by omega]
  · rw [getElem!_pos _ i (by simp [hsz, hi]), Array.getElem_setIfInBounds_ne (by simp [hsz, hi]) (fun h => e1 h.symm)]
    by_cases e2 : i = k
    · subst e2
      simp only [Array.getElem_setIfInBounds_self]
      rw [if_pos (by omega), hj]
    · rw [Array.getElem_setIfInBounds_ne (by omega) (fun h => e2 h.symm), ← getElem!_pos dk i (by omega), h.2 i hi]
      by_cases c : i < k ∨ d.size ≤ i + k
      · rw [if_pos c, if_pos (by omega)]
      · rw [if_neg c, if_neg (by omega)]
theorem RevI.left {d dk : Array RowV} {k : Nat} (h : RevI d dk k) (hlt : 2 * k + 1 < d.size) : dk[k]! = d[k]! := by rw [h.2 k (by omega), if_neg (by omega)]
theorem RevI.right {d dk : Array RowV} {k j : Nat} (h : RevI d dk k) (hj : j = d.size - 1 - k) (hlt : 2 * k + 1 < d.size) : dk[j]! = d[j]! := by rw [h.2 j (by omega), if_neg (by omega)]
theorem RevI.all {d dk : Array RowV} {k : Nat} (h : RevI d dk k) (hk : d.size ≤ 2 * k + 1) : ∀ i, i < d.size → dk[i]! = d[d.size - 1 - i]! := fun i hi => by
  rw [h.2 i hi]
  by_cases c : i < k ∨ d.size ≤ i + k
  · rw [if_pos c]
  · rw [if_neg c, show d.size - 1 - i = i by omega]
set_option maxHeartbeats 2000000 in
set_option maxRecDepth 100000 in
theorem ReverseRow_calls (base : Nat) (S : Nat → Prop) (v : Value) (xs : List (List Int)) (w0 w : World) (h : OwnR rowK 24 base S w v xs) (h0 : Gr w0 w) (hb : w0.heap.size ≤ base) :
    Calls Tryz.prog 25 #[v] w fun e w' => e = .returned (.tuple #[]) ∧ Rd rowK w' v xs.reverse ∧ Gr w0 w' := by
  rcases h.form with ⟨rfl, rfl⟩ | ⟨g, cap, rfl, hg, hgl, hc1, hc2⟩
  · go_enter Tryz.func25, Tryz.ntmps25
    go_wp2_with fail
    go_loop [2, 3] (fun i j => i = .int .i64 0 ∧ j = .int .i64 (-1)) (fun _ _ => 0)
    case atStart => exact ⟨rfl, rfl⟩
    case round =>
      obtain ⟨rfl, rfl⟩ := hrel
      go_wp2_with fail
      refine bodyPost_end (results_none rfl _ _ _) rfl ?_
      exact ⟨rfl, Rd.nil _, h0⟩
  · obtain ⟨d, cs, hxs, hblk, hcs, hI⟩ := own_rows h
    have hn : xs.length = d.size := by rw [hxs]; simp
    have hR : RW w0 w w g d := ⟨⟨cs, hblk, hcs⟩, h0, Kp.refl _ _⟩
    have HXS := Lib.hid hxs
    have HI := Lib.hid hI
    have HGL := Lib.hid (Nat.le_trans hb hg)
    rw [hn] at hc1 ⊢
    clear hxs hI hblk hcs h h0 hn hb hg hgl
    go_enter Tryz.func25, Tryz.ntmps25
    go_wp2_with fail
    go_loopw [2, 3] (fun i j wr => ∃ (k : Nat) (dk : Array RowV), 2 * k ≤ d.size + 1 ∧ i = .int .i64 k ∧ j = .int .i64 ((d.size : Int) - 1 - k) ∧ RW w0 w wr g dk ∧ Hid (RevI d dk k)) (fun i _ _ => d.size - (intOf i).toNat)
    case atStart => exact ⟨0, d, by omega, rfl, by simp, hR, Lib.hid (RevI.zero d)⟩
    case round =>
      rename_i wr
      obtain ⟨k, dk, hk, rfl, rfl, hW, HV⟩ := hrel
      have hsz := HV.out.1
      by_cases hlt : 2 * k + 1 < d.size
      · obtain ⟨j, hj⟩ : ∃ j, j = d.size - 1 - k := ⟨_, rfl⟩
        have hj' : (d.size : Int) - 1 - k = (j : Int) := by omega
        have c1 := (hW.at_ (i := k) (by omega)).1
        have c2 := (hW.at_ (i := j) (by omega)).1
        have f1 := (hW.at_ (i := k) (by omega)).2
        rw [HV.out.left hlt] at c1
        rw [HV.out.right hj hlt] at c2
        rw [hj']
        have W1 := hW.put HGL.out (k := k) (by omega) d[j]!
        have W2 := W1.put HGL.out (k := j) (by simp; omega) d[k]!
        have f2 := (W1.at_ (i := j) (by simp; omega)).2
        have HN := Lib.hid (HV.out.step hj hlt)
        obtain ⟨x, hx⟩ : ∃ x, x = d[k]!.1 := ⟨_, rfl⟩
        obtain ⟨y, hy⟩ : ∃ y, y = d[j]!.1 := ⟨_, rfl⟩
        obtain ⟨xa, xn, xc, hxv⟩ : ∃ a n c, x = .slice a n c := by
          have := HI.out k (by omega) w (Kp.refl _ _)
          obtain ⟨a, c, e, _⟩ := this.len
          exact ⟨a, _, c, hx.trans e⟩
        obtain ⟨ya, yn, yc, hyv⟩ : ∃ a n c, y = .slice a n c := by
          have := HI.out j (by omega) w (Kp.refl _ _)
          obtain ⟨a, c, e, _⟩ := this.len
          exact ⟨a, _, c, hy.trans e⟩
        rw [← hx, hxv] at c1 W2
        rw [← hy, hyv] at c2 W2 f2
        have q1 : (0 : Int) ≤ (k : Int) := by omega
        have q2 : (k : Int) < (d.size : Int) := by omega
        have q3 : (0 : Int) ≤ (j : Int) := by omega
        have q4 : (j : Int) < (d.size : Int) := by omega
        have q5 : (k : Int) < (j : Int) := by omega
        have HJ := Lib.hid hj
        have HLT := Lib.hid hlt
        have HW2 := Lib.hid W2
        clear hj hj' hlt hx hy hxv hyv W1 W2 hsz hW
        go_wp2_with fail
        go_region
        all_goals go_wp2_with fail
        have hx := HJ.out
        have hlt := HLT.out
        refine ⟨⟨k + 1, _, by omega, by simp, by rw [show (j : Int) - 1 = (d.size : Int) - 1 - ((k + 1 : Nat) : Int) by omega], HW2.out.mv ((Gr.refl _).drew), HN⟩, by simp [intOf]; omega⟩
      · have q5 : ¬ ((k : Int) < (d.size : Int) - 1 - k) := by omega
        go_wp2_with fail
        refine bodyPost_end (results_none rfl _ _ _) rfl ?_
        refine ⟨rfl, ?_, hW.gr⟩
        have hall := HV.out.all (by omega)
        have := rd_of_rows (g := g) (cap := cap) (w := wr) (ys := d.toList.reverse) (k := d.size) (by simp) (by omega) hc2 (fun y hy => by
          obtain ⟨i, hi, rfl⟩ := List.getElem_of_mem (List.mem_reverse.1 hy)
          have := HI.out i (by simpa using hi) wr hW.kp
          rw [getElem!_pos d i (by simpa using hi)] at this
          simpa using this) (fun i hi => by
          refine ⟨d[d.size - 1 - i]!, ?_, by rw [← hall i hi]; exact (hW.at_ (by omega)).1⟩
          rw [List.getElem?_reverse (by simpa using hi), getElem!_pos d _ (by omega)]
          simp)
        rw [HXS.out, List.map_reverse.symm] 
        exact this
end Go.Proofs.YtagdccgbcmnehaaGreat

namespace Go.Proofs.YtagdccgbcmnehaaGreat
open Go.RowKit Go.Tok
set_option linter.unusedVariables false
theorem flat_two (log : List (List Int)) : [log, log].flatten = log ++ log := by simp
set_option maxHeartbeats 1000000 in
set_option maxRecDepth 100000 in
theorem MineOrder_walk {v : Value} {log : List (List Int)} (w : World) (hv0 : LogR w v log) : Calls Tryz.prog 6 #[v] w fun e w' => e = .returned (.bool true) ∧ Gr w w' := by
  have hv := hv0.rd
  have hle := hv0.le
  clear hv0
  obtain ⟨a, cap, rfl, hlc, hcap⟩ := hv.len
  have HV := Lib.hid hv
  clear hv
  obtain ⟨x, hx⟩ : ∃ x, x = (mineF log).2 := ⟨_, rfl⟩
  obtain ⟨b, hb⟩ : ∃ b, b = (mineF log).1 := ⟨_, rfl⟩
  have HM : Hid (mineF log = (b, x)) := Lib.hid (by rw [hx, hb])
  have HM2 : Hid (mineF log.reverse = (b, x)) := Lib.hid (by rw [← HM.out]; exact (mine_same (wrong_rev log).symm (same_rev log)).symm)
  clear hx hb
  go_enter Tryz.func6, Tryz.ntmps6
  go_wp2_with fail
  refine (alive23_calls _).mono ?_
  rintro _ w1 ⟨rfl, g1⟩
  go_wp2_with fail
  refine (Mine_calls _ log _ (HV.out.gr g1)).mono ?_
  rintro _ w2 hret
  rw [HM.out] at hret
  unfold RetMine at hret
  obtain ⟨vb, rfl, hf, g2⟩ := hret
  have hb1 : BlkW w2 vb b := hf.now
  obtain ⟨va, vc, rfl⟩ := BlkW.agg hb1
  have k3 : Blk (w2.alloc (.cells #[.int .i64 b.kind, .int .i64 b.label, .slice va b.kids.length vc] 55)) w2.heap.size 55 #[.int .i64 b.kind, .int .i64 b.label, .slice va b.kids.length vc] := Blk.new rfl
  have e3 : Gr w2 (w2.alloc (.cells #[.int .i64 b.kind, .int .i64 b.label, .slice va b.kids.length vc] 55)) := (Gr.refl _).alloc _
  have HB3 := Lib.hid (hb1.gr e3)
  have G3 := (g1.trans g2).trans e3
  clear hf hb1 g1 g2 e3
  go_wp2_with fail
  refine (CloneRow_calls _ log _ (HV.out.gr G3) hle).mono ?_
  rintro _ w4 ⟨v4, rfl, o4, g4⟩
  obtain ⟨a4, c4, rfl, _, _⟩ := o4.len
  have HRV := Lib.hid (ReverseRow_calls _ _ _ log _ w4 o4 g4 (Nat.le_refl _))
  clear o4
  go_wp2_with fail
  refine HRV.out.mono ?_
  rintro _ w5 ⟨rfl, R5, g5⟩
  have HR5 := Lib.hid R5
  clear HRV R5 g4
  go_wp2_with fail
  refine (Mine_calls _ log.reverse _ HR5.out).mono ?_
  rintro _ w6 hret
  rw [HM2.out] at hret
  unfold RetMine at hret
  obtain ⟨vb6, rfl, hf, g6⟩ := hret
  have hb6 : BlkW w6 vb6 b := hf.now
  obtain ⟨va6, vc6, rfl⟩ := BlkW.agg hb6
  have k7 : Blk (w6.alloc (.cells #[.int .i64 b.kind, .int .i64 b.label, .slice va6 b.kids.length vc6] 55)) w6.heap.size 55 #[.int .i64 b.kind, .int .i64 b.label, .slice va6 b.kids.length vc6] := Blk.new rfl
  have e7 : Gr w6 (w6.alloc (.cells #[.int .i64 b.kind, .int .i64 b.label, .slice va6 b.kids.length vc6] 55)) := (Gr.refl _).alloc _
  have HB7 := Lib.hid (hb6.gr e7)
  have k3' := k3.gr (g5.trans (g6.trans e7))
  have HB3' := Lib.hid (HB3.out.gr (g5.trans (g6.trans e7)))
  have G7 := G3.trans (g5.trans (g6.trans e7))
  clear hf hb6 g5 g6 e7 HB3 k3 G3 HR5
  have gL : Gr (w6.alloc (.cells #[.int .i64 b.kind, .int .i64 b.label, .slice va6 b.kids.length vc6] 55)) ((w6.alloc (.cells #[.int .i64 b.kind, .int .i64 b.label, .slice va6 b.kids.length vc6] 55)).alloc (.cells #[.slice a log.length cap, .slice a log.length cap] 28)) := (Gr.refl _).alloc _
  have hmat : MatK rowK ((w6.alloc (.cells #[.int .i64 b.kind, .int .i64 b.label, .slice va6 b.kids.length vc6] 55)).alloc (.cells #[.slice a log.length cap, .slice a log.length cap] 28)) (.slice (some ⟨w6.heap.size + 1, 0, none⟩) 2 2) [log, log] := MatK.lit2 (by simp) (HV.out.gr G7) (HV.out.gr G7)
  have HCC := ConcatM_calls _ [log, log] _ hmat (by rw [flat_two, List.length_append]; omega)
  rw [flat_two] at HCC
  have HC := Lib.hid HCC
  have GL := G7.trans gL
  have k3 := k3'.gr gL
  have k8 := k7.gr gL
  have HB3 := Lib.hid (HB3'.out.gr gL)
  have HB8 := Lib.hid (HB7.out.gr gL)
  clear hmat HCC k3' k7 HB3' HB7 gL G7
  go_wp2_with fail
  refine HC.out.mono ?_
  rintro _ w8 ⟨v8, rfl, R8, g8⟩
  obtain ⟨a8, c8, e8, _, _⟩ := R8.len
  rw [List.length_append] at e8
  subst e8
  obtain ⟨y, hy⟩ : ∃ y, y = (mineF (log ++ log)).2 := ⟨_, rfl⟩
  obtain ⟨b2, hb2⟩ : ∃ b, b = (mineF (log ++ log)).1 := ⟨_, rfl⟩
  have HM3 : Hid (mineF (log ++ log) = (b2, y)) := Lib.hid (by rw [hy, hb2])
  have HT : Hid (log.length ≤ 30 → b2 = b ∧ y = x) := Lib.hid (fun h => by
    have e := mine_same (wrong_two h).symm (same_two log)
    rw [HM.out, HM3.out] at e
    injection e with e1 e2
    exact ⟨e1.symm, e2.symm⟩)
  have HR8 := Lib.hid R8
  clear hy hb2 R8 HC
  go_wp2_with fail
  refine (Mine_calls _ (log ++ log) _ HR8.out).mono ?_
  rintro _ w9 hret
  rw [HM3.out] at hret
  unfold RetMine at hret
  obtain ⟨vb9, rfl, hf, g9⟩ := hret
  have hb9 : BlkW w9 vb9 b2 := hf.now
  obtain ⟨va9, vc9, rfl⟩ := BlkW.agg hb9
  have e9 : Gr w9 (w9.alloc (.cells #[.int .i64 b2.kind, .int .i64 b2.label, .slice va9 b2.kids.length vc9] 55)) := (Gr.refl _).alloc _
  have n9 : Blk (w9.alloc (.cells #[.int .i64 b2.kind, .int .i64 b2.label, .slice va9 b2.kids.length vc9] 55)) w9.heap.size 55 #[.int .i64 b2.kind, .int .i64 b2.label, .slice va9 b2.kids.length vc9] := Blk.new rfl
  have g89 := g8.trans (g9.trans e9)
  have m3 := k3.gr g89
  have m8 := k8.gr g89
  have HB3 := Lib.hid (HB3.out.gr g89)
  have HB8 := Lib.hid (HB8.out.gr g89)
  have HB9 := Lib.hid (hb9.gr e9)
  have G9 := GL.trans g89
  have s0 := m3.cell (i := 0) rfl
  have s1 := m3.cell (i := 1) rfl
  have s2 := m3.cell (i := 2) rfl
  have u0 := m8.cell (i := 0) rfl
  have u1 := m8.cell (i := 1) rfl
  have u2 := m8.cell (i := 2) rfl
  have xx : (x == x) = true := by simp
  have HS1 := Lib.hid (SameBlock_yes _ _ b b _ rfl HB3.out HB8.out)
  clear hf hb9 g8 g9 e9 g89 k3 k8 GL
  by_cases h30 : log.length ≤ 30
  · obtain ⟨rfl, rfl⟩ := HT.out h30
    have hz : ¬ (30 : Int) < (log.length : Int) := by omega
    clear h30
    go_wp2_with fail
    refine HS1.out.mono ?_
    rintro _ w10 ⟨rfl, g10⟩
    have m10 := m3.gr g10
    have n10 := n9.gr g10
    have G10 := G9.trans g10
    have HS2 := Lib.hid (SameBlock_yes _ _ b2 b2 w10 rfl (HB3.out.gr g10) (HB9.out.gr g10))
    clear s0 s1 s2 u0 u1 u2 m3 n9 G9 g10 HS1 m8
    have s0 := m10.cell (i := 0) rfl
    have s1 := m10.cell (i := 1) rfl
    have s2 := m10.cell (i := 2) rfl
    have t0 := n10.cell (i := 0) rfl
    have t1 := n10.cell (i := 1) rfl
    have t2 := n10.cell (i := 2) rfl
    go_wp2_with fail
    refine HS2.out.mono ?_
    rintro _ w11 ⟨rfl, g11⟩
    go_wp2_with fail
    go_ret
    exact ⟨rfl, G10.trans g11⟩
  · have hz : (30 : Int) < (log.length : Int) := by omega
    clear h30
    go_wp2_with fail
    refine HS1.out.mono ?_
    rintro _ w10 ⟨rfl, g10⟩
    go_wp2_with fail
    go_ret
    exact ⟨rfl, G9.trans g10⟩
end Go.Proofs.YtagdccgbcmnehaaGreat

namespace Go.Proofs.YtagdccgbcmnehaaGreat.lawMineOrder
open Go.RowKit Go.Tok Go.ChangeShapes Go.WideShapes Go.ChangeAt
set_option linter.unusedVariables false

theorem readablesMineOrder : ∀ t ∈ Tryz.f6.params.toList, Tryz.prog.readableRec t = true ∧ t < Tryz.prog.types.size := by
  have h : (Tryz.f6.params.toList.all fun t => Tryz.prog.readableRec t && decide (t < Tryz.prog.types.size)) = true := by kernel_rfl
  intro t ht
  simpa using List.all_eq_true.1 h t ht

set_option maxRecDepth 100000 in
theorem contract (H : Type) (enc : TypeId × Value → H) (W : World) (base : Nat) (args : Array Value) (ds gs : List (DataW H)) (before : List MemPlace)
    (hval : ∀ (j : Nat) t v, Tryz.f6.params[j]? = some t → args[j]? = some v → Value.okWide Tryz.prog W .any base t v)
    (hW : DataW.Whole enc Tryz.prog Tryz.f6.params.toList Rows.mineOrderSpec.vars false W args.toList ds gs before)
    (hz : ∀ n ∈ DataW.weightsEach Tryz.prog Tryz.f6.params.toList ds, n ≤ reachBytes) :
    Calls Tryz.prog 6 args W fun e W' => ∃ v, e = .returned v ∧ Rows.mineOrderSpec.post enc Tryz.prog Tryz.f6 false true false false W args v W' := by
  have hW' := hW
  obtain ⟨p, q, hA0, hV, rfl, hfz, hnd⟩ := hW
  have hA : DataW.TrodAll enc Tryz.prog W 0 (fun _ => true) true Tryz.f6.params.toList args.toList ds p := hA0
  rw [Tryz.params6] at hA hval hz
  obtain ⟨v0, vs0, d0, ds0, p0, q0, hargs, rfl, rfl, h0, r0⟩ := trodAll_cons hA
  obtain ⟨rfl, rfl, rfl⟩ := trodAll_nil r0
  obtain rfl : args = #[v0] := by cases args; simp_all
  obtain ⟨rfl, rfl⟩ := trodVars_none hV
  clear hA0
  simp only [List.append_nil] at hW'
  obtain ⟨x0, i0⟩ := log_arg W (hval 0 28 v0 rfl rfl) h0 (fun n hn => hz n (DataW.weights_mem_each (j := 0) rfl rfl n hn))
  refine (MineOrder_walk W i0).mono fun e W' ⟨he, hg⟩ => ⟨.bool true, he, ?_⟩
  exact law_post laidOut (fun t ht => readablesMineOrder t ht) Tryz.underlying4 rfl rfl rfl hW' hg

set_option maxRecDepth 100000 in
theorem lifted (os : Os) (started : os.Started) (H : Type) (enc : TypeId × Value → H) :
    ReturnsInHanded {} Tryz.checked os 6 .any (Rows.mineOrderSpec.pre6 enc Tryz.prog Tryz.f6 Rows.mineOrderRow.domain false) (Rows.mineOrderSpec.post enc Tryz.prog Tryz.f6 false true false false) := by
  refine returnsInHanded_of_change_sized (C := Tryz.checked) own started (by kernel_rfl) Tryz.func6
    (ChangeSpec.witness6 (enc := enc) (C := Tryz.checked) false ⟨#[], #[.slice none 0 0], []⟩ 8 (by kernel_rfl) (by kernel_rfl) (by kernel_rfl) (by kernel_rfl)) ?_
  intro W base args ds gs before hval hW _ hz _
  have hgs : gs = [] := by obtain ⟨p, q, _, hV, _⟩ := hW; exact (trodVars_none hV).1
  subst hgs
  exact contract H enc W base args ds [] before hval hW (fun n hn => of_decide_eq_true (List.all_eq_true.1 hz n (by show n ∈ DataW.weightsEach Tryz.prog (Tryz.f6.params.toList ++ []) (ds ++ []); rw [weightsEach_nil]; exact hn)))

theorem proved : Rows.MineOrderSaid :=
  OpenClaim.holds_of_wide 6 Tryz.f6 rfl rfl rfl rfl rfl rfl rfl ⟨rfl, rfl, rfl, rfl, rfl⟩ rfl rfl rfl rfl rfl (by kernel_rfl) Tryz.func6 (by kernel_rfl)
    (of_decide_eq_true (by kernel_rfl)) (by unfold Func.isWrapper; first | (rw [if_pos (by decide +kernel)]; kernel_rfl) | (rw [if_neg (by decide +kernel)]; exact ⟨rfl, rfl⟩))
    (fun os started H enc _ => lifted os started H enc)

end Go.Proofs.YtagdccgbcmnehaaGreat.lawMineOrder

