/- MineOnce: for every input the law returns true, and each argument reads behind the call as it read before. -/
import Derived.Test.YtagdccgbcmnehaaGreatQMOd
import Derived.Test.YtagdccgbcmnehaaGreatQMOk
import Derived.Test.YtagdccgbcmnehaaGreatQMOb
import Derived.Test.YtagdccgbcmnehaaGreatQMOg
import Derived.Test.YtagdccgbcmnehaaGreatQMOf
import Derived.Test.YtagdccgbcmnehaaGreatRows
namespace Go.Tok
open Go.RowKit
set_option linter.unusedVariables false
def eqL (f : BlockD → BlockD → Bool) : List BlockD → List BlockD → Bool
  | [], [] => true
  | x :: xs, y :: ys => f x y && eqL f xs ys
  | _, _ => false
theorem eqL_iff {f : BlockD → BlockD → Bool} : ∀ {xs ys : List BlockD}, eqL f xs ys = true ↔ xs.length = ys.length ∧ ∀ i, i < xs.length → f (ix xs i) (ix ys i) = true
  | [], [] => by simp [eqL]
  | [], y :: ys => by simp [eqL]
  | x :: xs, [] => by simp [eqL]
  | x :: xs, y :: ys => by
    unfold eqL
    rw [Bool.and_eq_true, eqL_iff]
    constructor
    · rintro ⟨h1, h2, h3⟩
      refine ⟨by simp [h2], fun i hi => ?_⟩
      cases i with
      | zero => rw [ix_zero, ix_zero]; exact h1
      | succ i => rw [ix_succ, ix_succ]; exact h3 i (by simpa using hi)
    · rintro ⟨h1, h2⟩
      refine ⟨?_, by simpa using h1, fun i hi => ?_⟩
      · have := h2 0 (by simp); rwa [ix_zero, ix_zero] at this
      · have := h2 (i + 1) (by simpa using hi); rwa [ix_succ, ix_succ] at this
def sameBlk : Nat → BlockD → BlockD → Bool
  | 0, _, _ => false
  | n + 1, a, b => (a.kind == b.kind && a.label == b.label) && eqL (sameBlk n) a.kids b.kids
theorem sameBlk_succ (n : Nat) (a b : BlockD) : sameBlk (n + 1) a b = ((a.kind == b.kind && a.label == b.label) && eqL (sameBlk n) a.kids b.kids) := rfl
theorem sameBlk_iff : ∀ (n : Nat) (a b : BlockD), DepB n a → (sameBlk n a b = true ↔ a = b) := by
  intro n
  induction n with
  | zero => intro a b h; exact h.elim
  | succ n ih =>
    intro a b h
    obtain ⟨k, l, ks⟩ := a
    obtain ⟨k', l', ks'⟩ := b
    rw [sameBlk_succ, Bool.and_eq_true, Bool.and_eq_true, eqL_iff]
    simp only [BlockD.kind, BlockD.label, BlockD.kids, beq_iff_eq, BlockD.mk.injEq]
    have hk : ∀ x ∈ ks, DepB n x := h
    constructor
    · rintro ⟨⟨h1, h2⟩, h3, h4⟩
      exact ⟨h1, h2, ext_ix h3 fun i hi => (ih _ _ (hk _ (ix_mem hi))).1 (h4 i hi)⟩
    · rintro ⟨rfl, rfl, rfl⟩
      exact ⟨⟨rfl, rfl⟩, rfl, fun i hi => (ih _ _ (hk _ (ix_mem hi))).2 rfl⟩
end Go.Tok
namespace Go.Tok
open Go.RowKit
theorem dep_of_r : ∀ {n : Nat} {w : World} {v : Value} {b : BlockD}, BlockR n w v b → DepB (n + 1) b := by
  intro n
  induction n with
  | zero =>
    intro w v b h k hk
    obtain ⟨_, _, a, cap, _, _, _, hB⟩ := h.open_
    obtain ⟨i, hi, rfl⟩ := List.getElem_of_mem hk
    obtain ⟨m, _, _, _, hm, _⟩ := kid_at hB hi
    cases hm
  | succ n ih =>
    intro w v b h k hk
    obtain ⟨_, _, a, cap, _, _, _, hB⟩ := h.open_
    obtain ⟨i, hi, rfl⟩ := List.getElem_of_mem hk
    obtain ⟨m, _, _, _, hm, _, _, _, _, hr⟩ := kid_at hB hi
    cases hm
    rw [ix_lt hi] at hr
    exact ih hr
end Go.Tok
namespace Go.Proofs.YtagdccgbcmnehaaGreat
open Go.RowKit Go.Tok
set_option linter.unusedVariables false
def SameOk (n : Nat) : Prop := ∀ (v u : Value) (a b : BlockD) (w : World), BlockR n w v a → BlkW w u b → Calls Tryz.prog 27 #[v, u] w fun e w' => e = .returned (.bool (sameBlk (n + 1) a b)) ∧ Gr w w'
set_option maxHeartbeats 1000000 in
set_option maxRecDepth 100000 in
theorem EqualFuncB_calls (n : Nat) (hS : ∀ m, n = m + 1 → SameOk m) (v u : Value) (xs ys : List BlockD) (w : World) (hv : Rd (blkK n) w v xs) (hu : Rd blkW w u ys) :
    Calls Tryz.prog 65 #[v, u, .func (.func 27) #[] #[]] w fun e w' => e = .returned (.bool (eqL (sameBlk n) xs ys)) ∧ Gr w w' := by
  obtain ⟨a, cap, rfl, hlc, hcap⟩ := hv.len
  obtain ⟨a', cap', rfl, hlc', hcap'⟩ := hu.len
  have eg : ∀ args w, (callFunc 27 args).run Tryz.prog w = .ok (.enter 27 args) w := (Go.Proofs.enters_of Tryz.func27 (by kernel_rfl) rfl)
  by_cases hl : xs.length = ys.length
  · have HL := Lib.hid hl
    have q0 : ((xs.length : Int) != (ys.length : Int)) = false := by simp [hl]
    clear hl
    go_enter Tryz.func65, Tryz.ntmps65
    go_wp2_with fail
    go_loopw [17] (fun i wr => ∃ k : Nat, k ≤ xs.length ∧ i = .int .i64 k ∧ Gr w wr ∧ Hid (∀ j, j < k → sameBlk n (ix xs j) (ix ys j) = true)) (fun i _ => xs.length - (intOf i).toNat)
    case atStart => exact ⟨0, Nat.zero_le _, rfl, Gr.refl _, Lib.hid fun j hj => absurd hj (Nat.not_lt_zero _)⟩
    case round =>
      rename World => wr
      obtain ⟨k, hk, rfl, hgr, HA⟩ := hrel
      by_cases hlt : k < xs.length
      · have hlt' : k < ys.length := by have := HL.out; omega
        obtain ⟨m, b, o, s, hm, rfl, c0, c1, c2, hx⟩ := kid_at (hv.gr hgr) hlt
        obtain ⟨b', o', s', rfl, d0, d1, d2, hy⟩ := kid_atW (hu.gr hgr) hlt'
        obtain ⟨_, _, sa, sc, e1, _, _, _⟩ := hx.open_
        obtain ⟨_, _, sa', sc', e2, _, _, _⟩ := hy.open_
        have es : s = .slice sa (ix xs k).kids.length sc := by
          have := congrArg (fun v => match v with | Value.agg cs => cs.toList | _ => []) e1
          simp at this; exact this
        have es' : s' = .slice sa' (ix ys k).kids.length sc' := by
          have := congrArg (fun v => match v with | Value.agg cs => cs.toList | _ => []) e2
          simp at this; exact this
        subst es es'
        obtain ⟨x, hxe⟩ : ∃ x, x = ix xs k := ⟨_, rfl⟩
        obtain ⟨y, hye⟩ : ∃ y, y = ix ys k := ⟨_, rfl⟩
        rw [← hxe] at c0 c1 c2 hx
        rw [← hye] at d0 d1 d2 hy
        have HE := Lib.hid (And.intro hxe hye)
        have HM := Lib.hid hm
        have hkI : (k : Int) < (xs.length : Int) := by omega
        have hkI' : (k : Int) < (ys.length : Int) := by omega
        have hk0 : (0 : Int) ≤ (k : Int) := by omega
        have g2 : Gr wr ((wr.alloc (.cells #[.int .i64 x.kind, .int .i64 x.label, .slice sa x.kids.length sc] 55)).alloc (.cells #[.int .i64 y.kind, .int .i64 y.label, .slice sa' y.kids.length sc'] 55)) := ((Gr.refl _).alloc _).alloc _
        have hcall := hS m hm _ _ x y _ (hx.gr g2) (hy.gr g2)
        rw [← hm] at hcall
        have d0' := cell_gr d0 ((Gr.refl wr).alloc (.cells #[.int .i64 x.kind, .int .i64 x.label, .slice sa x.kids.length sc] 55))
        have d1' := cell_gr d1 ((Gr.refl wr).alloc (.cells #[.int .i64 x.kind, .int .i64 x.label, .slice sa x.kids.length sc] 55))
        have d2' := cell_gr d2 ((Gr.refl wr).alloc (.cells #[.int .i64 x.kind, .int .i64 x.label, .slice sa x.kids.length sc] 55))
        have bx : Blk ((wr.alloc (.cells #[.int .i64 x.kind, .int .i64 x.label, .slice sa x.kids.length sc] 55)).alloc (.cells #[.int .i64 y.kind, .int .i64 y.label, .slice sa' y.kids.length sc'] 55)) wr.heap.size 55 #[.int .i64 x.kind, .int .i64 x.label, .slice sa x.kids.length sc] := (Blk.new rfl).gr ((Gr.refl _).alloc _)
        have x0 := bx.cell (i := 0) rfl
        have x1 := bx.cell (i := 1) rfl
        have x2 := bx.cell (i := 2) rfl
        have HG2 := Lib.hid g2
        clear hxe hye e1 e2 hm hx hy bx d0 d1 d2 g2
        cases hs : sameBlk n x y
        · rw [hs] at hcall
          have HR : Hid (eqL (sameBlk n) xs ys = false) := Lib.hid (by
            rw [Bool.eq_false_iff]
            intro h
            have := (eqL_iff.1 h).2 k hlt
            rw [← HE.out.1, ← HE.out.2, hs] at this; cases this)
          have HC := Lib.hid hcall
          clear hs hcall
          go_wp2_with (go_at_fn 27; refine HC.out.mono ?_; rintro e w' ⟨rfl, g3⟩)
          go_ret
          exact ⟨ret_bool HR.out.symm, hgr.trans (HG2.out.trans g3)⟩
        · rw [hs] at hcall
          have HN : Hid (∀ j, j < k + 1 → sameBlk n (ix xs j) (ix ys j) = true) := Lib.hid (fun j hj => by
            by_cases e : j = k
            · subst e; rw [← HE.out.1, ← HE.out.2]; exact hs
            · exact HA.out j (by omega))
          have HC := Lib.hid hcall
          clear hs hcall
          go_wp2_with (go_at_fn 27; refine HC.out.mono ?_; rintro e w' ⟨rfl, g3⟩)
          go_roundw
          case rel => exact ⟨k + 1, by omega, by go_num, hgr.trans (HG2.out.trans g3), HN⟩
          case measure => simp [intOf]; omega
      · obtain rfl : k = xs.length := by omega
        have HR : Hid (eqL (sameBlk n) xs ys = true) := Lib.hid (eqL_iff.2 ⟨HL.out, HA.out⟩)
        go_wp2_with fail
        go_ret
        exact ⟨ret_bool HR.out.symm, hgr⟩
  · have HR : Hid (eqL (sameBlk n) xs ys = false) := Lib.hid (by
      rw [Bool.eq_false_iff]
      intro h
      exact hl (eqL_iff.1 h).1)
    have q0 : ((xs.length : Int) != (ys.length : Int)) = true := by simp; omega
    clear hl
    go_enter Tryz.func65, Tryz.ntmps65
    go_wp2_with fail
    go_ret
    exact ⟨ret_bool HR.out.symm, Gr.refl _⟩
set_option maxHeartbeats 1000000 in
set_option maxRecDepth 100000 in
theorem same_step (n : Nat) (hS : ∀ m, n = m + 1 → SameOk m) : SameOk n := by
  intro v u a b w hv hu
  obtain ⟨h1, h2, sa, sc, rfl, _, _, hB⟩ := hv.open_
  obtain ⟨h3, h4, sb, sd, rfl, _, _, hC⟩ := hu.open_
  have GA : Gr w ((w.alloc (.cells #[.int .i64 a.kind, .int .i64 a.label, .slice sa a.kids.length sc] 55)).alloc (.cells #[.int .i64 b.kind, .int .i64 b.label, .slice sb b.kids.length sd] 55)) := ((Gr.refl _).alloc _).alloc _
  have ba : Blk ((w.alloc (.cells #[.int .i64 a.kind, .int .i64 a.label, .slice sa a.kids.length sc] 55)).alloc (.cells #[.int .i64 b.kind, .int .i64 b.label, .slice sb b.kids.length sd] 55)) w.heap.size 55 #[.int .i64 a.kind, .int .i64 a.label, .slice sa a.kids.length sc] := (Blk.new rfl).gr ((Gr.refl _).alloc _)
  have bb : Blk ((w.alloc (.cells #[.int .i64 a.kind, .int .i64 a.label, .slice sa a.kids.length sc] 55)).alloc (.cells #[.int .i64 b.kind, .int .i64 b.label, .slice sb b.kids.length sd] 55)) (w.heap.size + 1) 55 #[.int .i64 b.kind, .int .i64 b.label, .slice sb b.kids.length sd] := Blk.new (by simp)
  have a0 := ba.cell (i := 0) rfl
  have a1 := ba.cell (i := 1) rfl
  have a2 := ba.cell (i := 2) rfl
  have b0 := bb.cell (i := 0) rfl
  have b1 := bb.cell (i := 1) rfl
  have b2 := bb.cell (i := 2) rfl
  have HE := Lib.hid (EqualFuncB_calls n hS _ _ a.kids b.kids _ (hB.gr GA) (hC.gr GA))
  have HG := Lib.hid GA
  clear hv hu hB hC ba bb GA
  by_cases hk : a.kind = b.kind
  · have q1 : (a.kind == b.kind) = true := by simpa using hk
    by_cases hl : a.label = b.label
    · have q2 : (a.label == b.label) = true := by simpa using hl
      have HR : Hid (sameBlk (n + 1) a b = eqL (sameBlk n) a.kids b.kids) := Lib.hid (by rw [sameBlk_succ, q1, q2]; rfl)
      clear hk hl
      go_enter Tryz.func27, Tryz.ntmps27
      go_wp2_with fail
      refine HE.out.mono ?_
      rintro _ w2 ⟨rfl, g2⟩
      go_wp2_with fail
      go_ret
      exact ⟨ret_bool HR.out.symm, HG.out.trans g2⟩
    · have q2 : (a.label == b.label) = false := by simpa using hl
      have HR : Hid (sameBlk (n + 1) a b = false) := Lib.hid (by rw [sameBlk_succ, q1, q2]; rfl)
      clear hk hl
      go_enter Tryz.func27, Tryz.ntmps27
      go_wp2_with fail
      go_ret
      exact ⟨ret_bool HR.out.symm, HG.out⟩
  · have q1 : (a.kind == b.kind) = false := by simpa using hk
    have HR : Hid (sameBlk (n + 1) a b = false) := Lib.hid (by rw [sameBlk_succ, q1]; rfl)
    clear hk
    go_enter Tryz.func27, Tryz.ntmps27
    go_wp2_with fail
    go_ret
    exact ⟨ret_bool HR.out.symm, HG.out⟩
theorem same_ok : ∀ n, SameOk n
  | 0 => same_step 0 fun m h => by cases h
  | n + 1 => same_step (n + 1) fun m h => by cases h; exact same_ok n
/-- two blocks at hand -/
theorem SameBlock_calls (v u : Value) (a b : BlockD) (w : World) (hv : BlkW w v a) (hu : BlkW w u b) : Calls Tryz.prog 27 #[v, u] w fun e w' => ∃ r, e = .returned (.bool r) ∧ (r = true ↔ a = b) ∧ Gr w w' := by
  obtain ⟨n, hn⟩ := hv
  refine (same_ok n v u a b w hn hu).mono ?_
  rintro _ w2 ⟨rfl, g2⟩
  exact ⟨_, rfl, sameBlk_iff (n + 1) a b (dep_of_r hn), g2⟩
end Go.Proofs.YtagdccgbcmnehaaGreat

namespace Go.Tok
set_option linter.unusedVariables false
def log23 : List (List Int) := [[1, 2, 3, 4], [1, 3, 2, 4]]
def blk23 : BlockD := manyD 3 [stepD 1, manyD 5 [stepD 2, stepD 3], stepD 4]
theorem mine23 : mineF log23 = (blk23, 0) := by kernel_rfl
end Go.Tok
namespace Go.Proofs.YtagdccgbcmnehaaGreat
open Go.RowKit Go.Tok
set_option linter.unusedVariables false
theorem BlkF.lit3 {m : Nat} {w : World} {k : Int} {x y z : BlockD} {a1 a2 a3 b1 b2 b3 c1 c2 c3 : Value} (hx : BlkF m w (.agg #[a1, a2, a3]) x) (hy : BlkF m w (.agg #[b1, b2, b3]) y) (hz : BlkF m w (.agg #[c1, c2, c3]) z) (hm : m ≤ w.heap.size) (hk : I64 k) :
    BlkF m (w.alloc (.cells #[a1, a2, a3, b1, b2, b3, c1, c2, c3] 55)) (.agg #[.int .i64 k, .int .i64 0, .slice (some ⟨w.heap.size, 0, none⟩) 3 3]) (manyD k [x, y, z]) := by
  refine BlkF.of (base := w.heap.size) (S := fun b => m ≤ b) ?_ hk (fun b hb => hb) hm
  refine OwnR.lit [(x, [a1, a2, a3]), (y, [b1, b2, b3]), (z, [c1, c2, c3])] rfl rfl rfl rfl rfl (by simp) (Nat.le_refl _) fun r hr => ?_
  rcases List.mem_cons.1 hr with rfl | hr
  · exact hx.cellsA.mono fun b hb h => ⟨h, by omega⟩
  rcases List.mem_cons.1 hr with rfl | hr
  · exact hy.cellsA.mono fun b hb h => ⟨h, by omega⟩
  · rw [List.mem_singleton.1 hr]
    exact hz.cellsA.mono fun b hb h => ⟨h, by omega⟩
theorem BlkF.stp {m : Nat} {w : World} {a : Int} (h : I64 a) : BlkF m w (.agg #[.int .i64 2, .int .i64 a, .slice none 0 0]) (stepD a) := BlkF.flat (k := 2) (l := a) (by decide) h
theorem BlkW.agg {w : World} {v : Value} {b : BlockD} (h : BlkW w v b) : ∃ a cap, v = .agg #[.int .i64 b.kind, .int .i64 b.label, .slice a b.kids.length cap] := by
  obtain ⟨_, _, a, cap, e, _⟩ := h.open_
  exact ⟨a, cap, e⟩
theorem SameBlock_yes (v u : Value) (a b : BlockD) (w : World) (h : a = b) (hv : BlkW w v a) (hu : BlkW w u b) : Calls Tryz.prog 27 #[v, u] w fun e w' => e = .returned (.bool true) ∧ Gr w w' := by
  refine (SameBlock_calls v u a b w hv hu).mono ?_
  rintro _ w' ⟨r, rfl, hr, g⟩
  rw [hr.2 h]
  exact ⟨rfl, g⟩
/-- two rows of ints -/
theorem rows_two {w : World} {H : Nat} {p q : Value} {a b : List Int} (hH : w.heap.size = H) (hp : Ints w p a) (hq : Ints w q b) : Rd rowK (w.alloc (.cells #[p, q] 24)) (.slice (some ⟨H, 0, none⟩) 2 2) [a, b] := by
  subst hH
  refine rd_mk (a := some ⟨w.heap.size, 0, none⟩) (cap := 2) rfl (by simp) (by unfold maxLen; omega) (by simp) fun i hi => ?_
  rcases i with _ | _ | i
  · rw [ix_zero]
    refine ⟨w.heap.size, 0, [p], rfl, ⟨p, rfl, hp.gr ((Gr.refl _).alloc _)⟩, fun j u hj => ?_⟩
    match j, hj with
    | 0, hj => cases hj; exact box_cell (Gr.refl _) (i := 0) rfl
  · rw [show ix [a, b] (0 + 1) = b by rw [ix_succ, ix_zero]]
    refine ⟨w.heap.size, 0, [q], rfl, ⟨q, rfl, hq.gr ((Gr.refl _).alloc _)⟩, fun j u hj => ?_⟩
    match j, hj with
    | 0, hj => cases hj; exact box_cell (Gr.refl _) (i := 1) rfl
  · simp at hi; omega
set_option maxHeartbeats 1000000 in
set_option maxRecDepth 100000 in
theorem alive23_calls (w : World) : Calls Tryz.prog 18 #[] w fun e w' => e = .returned (.bool true) ∧ Gr w w' := by
  have i1 : Ints (w.alloc (.cells #[.int .i64 1, .int .i64 2, .int .i64 3, .int .i64 4] 3)) (.slice (some ⟨w.heap.size, 0, none⟩) 4 4) [1, 2, 3, 4] := Ints.lit rfl rfl rfl rfl (by decide) (by simp)
  have i2 : Ints ((w.alloc (.cells #[.int .i64 1, .int .i64 2, .int .i64 3, .int .i64 4] 3)).alloc (.cells #[.int .i64 1, .int .i64 3, .int .i64 2, .int .i64 4] 3)) (.slice (some ⟨w.heap.size + 1, 0, none⟩) 4 4) [1, 3, 2, 4] := Ints.lit (by simp) rfl rfl rfl (by decide) (by simp)
  have hR : Rd rowK (((w.alloc (.cells #[.int .i64 1, .int .i64 2, .int .i64 3, .int .i64 4] 3)).alloc (.cells #[.int .i64 1, .int .i64 3, .int .i64 2, .int .i64 4] 3)).alloc (.cells #[.slice (some ⟨w.heap.size, 0, none⟩) 4 4, .slice (some ⟨w.heap.size + 1, 0, none⟩) 4 4] 24)) (.slice (some ⟨w.heap.size + 1 + 1, 0, none⟩) 2 2) log23 := rows_two (by simp) (i1.gr ((Gr.refl _).alloc _)) i2
  have HM := Lib.hid (Mine_calls _ log23 _ hR)
  rw [mine23] at HM
  have G0 : Gr w (((w.alloc (.cells #[.int .i64 1, .int .i64 2, .int .i64 3, .int .i64 4] 3)).alloc (.cells #[.int .i64 1, .int .i64 3, .int .i64 2, .int .i64 4] 3)).alloc (.cells #[.slice (some ⟨w.heap.size, 0, none⟩) 4 4, .slice (some ⟨w.heap.size + 1, 0, none⟩) 4 4] 24)) := (((Gr.refl _).alloc _).alloc _).alloc _
  clear i1 i2 hR
  go_enter Tryz.func18, Tryz.ntmps18
  go_wp2_with fail
  refine HM.out.mono ?_
  rintro _ w2 hret
  unfold RetMine at hret
  obtain ⟨vb, rfl, hf, g2⟩ := hret
  have hb : BlkW w2 vb blk23 := hf.now
  obtain ⟨va, vc, rfl⟩ := BlkW.agg hb
  obtain ⟨bb, hbb⟩ : ∃ b, b = blk23 := ⟨_, rfl⟩
  rw [← hbb] at hb ⊢
  have HBB := Lib.hid hbb
  have k1 : Blk (w2.alloc (.cells #[.int .i64 bb.kind, .int .i64 bb.label, .slice va bb.kids.length vc] 55)) w2.heap.size 55 #[.int .i64 bb.kind, .int .i64 bb.label, .slice va bb.kids.length vc] := Blk.new rfl
  have g3 : Gr w2 (w2.alloc (.cells #[.int .i64 bb.kind, .int .i64 bb.label, .slice va bb.kids.length vc] 55)) := (Gr.refl _).alloc _
  have HB := Lib.hid (hb.gr g3)
  have HG := Lib.hid (G0.trans (g2.trans g3))
  have s0 := k1.cell (i := 0) rfl
  have s1 := k1.cell (i := 1) rfl
  have s2 := k1.cell (i := 2) rfl
  clear hf hb hbb k1 HM g2 g3 G0
  go_wp2_with fail
  go_region_held3 (fun w' => w'.cell? ⟨w2.heap.size, 0, none⟩ = some (.int .i64 bb.kind) ∧ w'.cell? ⟨w2.heap.size, 1, none⟩ = some (.int .i64 bb.label) ∧ w'.cell? ⟨w2.heap.size, 2, none⟩ = some (.slice va bb.kids.length vc)) (first | exact ⟨cell_gr s0 (by (repeat (first | exact Gr.refl _ | assumption | apply Gr.alloc | apply Gr.drew | apply Gr.drewN | refine Gr.trans ?_ (by assumption)))), cell_gr s1 (by (repeat (first | exact Gr.refl _ | assumption | apply Gr.alloc | apply Gr.drew | apply Gr.drewN | refine Gr.trans ?_ (by assumption)))), cell_gr s2 (by (repeat (first | exact Gr.refl _ | assumption | apply Gr.alloc | apply Gr.drew | apply Gr.drewN | refine Gr.trans ?_ (by assumption))))⟩ | go_keep) (first | (go_at_call 54; (with_reducible refine (kstep_calls _ _).mono ?_); rintro _ wk ⟨rfl, gk⟩) | (go_at_call 53; (with_reducible refine (kmany_calls 5 _ 2 2 _).mono ?_); rintro _ w5 ⟨rfl, g5⟩; (have hB := BlkF.gr (BlkF.lit2 (m := 0) (k := 5) (x := stepD 2) (y := stepD 3) (BlkF.stp (by decide)) (BlkF.stp (by decide)) (Nat.zero_le _) (by decide)) g5)) | (go_at_call 53; (with_reducible refine (kmany_calls 3 _ 3 3 _).mono ?_); rintro _ w6 ⟨rfl, g6⟩; (have hC := BlkF.gr (BlkF.lit3 (m := 0) (k := 3) (x := stepD 1) (z := stepD 4) (BlkF.stp (by decide)) (BlkF.gr hB gk) (BlkF.stp (by decide)) (Nat.zero_le _) (by decide)) g6)) | (go_at_call 27; ((refine (SameBlock_yes _ _ bb blk23 _ HBB.out (HB.out.gr ?_) (BlkW.gr hC.now ?_)).mono ?_); ((focus ((repeat (first | exact Gr.refl _ | assumption | apply Gr.alloc | apply Gr.drew | apply Gr.drewN | refine Gr.trans ?_ (by assumption))); done))); ((focus ((repeat (first | exact Gr.refl _ | assumption | apply Gr.alloc | apply Gr.drew | apply Gr.drewN | refine Gr.trans ?_ (by assumption))); done))); rintro _ w9 ⟨rfl, g9⟩)))
  all_goals (go_wp2_with fail; go_ret)
  all_goals exact ⟨rfl, HG.out.trans (by (repeat (first | exact Gr.refl _ | assumption | apply Gr.alloc | apply Gr.drew | apply Gr.drewN | refine Gr.trans ?_ (by assumption))))⟩
end Go.Proofs.YtagdccgbcmnehaaGreat

namespace Go.Proofs.YtagdccgbcmnehaaGreat
open Go.RowKit Go.Tok
set_option linter.unusedVariables false
theorem stepsN_succ (n : Nat) (b : BlockD) : stepsN (n + 1) b = (if b.kind = 2 then [b.label] else []) ++ b.kids.flatMap (stepsN n) := rfl
def StepsOk (n : Nat) : Prop := ∀ (v : Value) (b : BlockD) (w : World), BlockR n w v b → (stepsN (n + 1) b).length ≤ 1000000 →
  Calls Tryz.prog 21 #[v] w fun e w' => ∃ v', e = .returned v' ∧ OwnI 3 w.heap.size w' v' (stepsN (n + 1) b) ∧ Gr w w'
theorem flat_upto {f : BlockD → List Int} {ks : List BlockD} {i : Nat} (h : i < ks.length) : (ks.take (i + 1)).flatMap f = (ks.take i).flatMap f ++ f (ix ks i) := by rw [take_ix h, List.flatMap_append]; simp
theorem flat_le {f : BlockD → List Int} {ks : List BlockD} {i : Nat} (h : i < ks.length) : ((ks.take i).flatMap f).length + (f (ix ks i)).length ≤ (ks.flatMap f).length := by
  rw [← List.length_append, ← flat_upto h]
  conv => rhs; rw [← List.take_append_drop (i + 1) ks, List.flatMap_append, List.length_append]
  omega
set_option maxHeartbeats 1000000 in
set_option maxRecDepth 100000 in
theorem steps_step (n : Nat) (hS : ∀ m, n = m + 1 → StepsOk m) : StepsOk n := by
  intro v b w hv hl
  obtain ⟨h1, h2, ba, bc, rfl, hbc, hbc2, hB⟩ := hv.open_
  have GA : Gr w (w.alloc (.cells #[.int .i64 b.kind, .int .i64 b.label, .slice ba b.kids.length bc] 55)) := (Gr.refl _).alloc _
  have bb : Blk (w.alloc (.cells #[.int .i64 b.kind, .int .i64 b.label, .slice ba b.kids.length bc] 55)) w.heap.size 55 #[.int .i64 b.kind, .int .i64 b.label, .slice ba b.kids.length bc] := Blk.new rfl
  have b0 := bb.cell (i := 0) rfl
  have b1 := bb.cell (i := 1) rfl
  have b2 := bb.cell (i := 2) rfl
  have HB := Lib.hid hB
  clear hv hB
  obtain ⟨pre, hpre⟩ : ∃ pre, pre = if b.kind = 2 then [b.label] else ([] : List Int) := ⟨_, rfl⟩
  have hst : stepsN (n + 1) b = pre ++ b.kids.flatMap (stepsN n) := by rw [hpre]; rfl
  rw [hst, List.length_append] at hl
  have HR := Lib.hid hst
  have HL := Lib.hid hl
  have hkl : b.kids.length ≤ 9223372036854775807 := Nat.le_trans hbc hbc2
  clear hl hst
  by_cases hk : b.kind = 2
  · rw [if_pos hk] at hpre
    have q1 : (b.kind == 2) = true := by simpa using hk
    have GL : Gr w ((w.alloc (.cells #[.int .i64 b.kind, .int .i64 b.label, .slice ba b.kids.length bc] 55)).alloc (.cells #[.int .i64 b.label] 3)) := GA.alloc _
    have OL : OwnI 3 w.heap.size ((w.alloc (.cells #[.int .i64 b.kind, .int .i64 b.label, .slice ba b.kids.length bc] 55)).alloc (.cells #[.int .i64 b.label] 3)) (.slice (some ⟨w.heap.size + 1, 0, none⟩) 1 1) [b.label] := OwnI.lit (by simp) rfl rfl rfl (fun x hx => by rw [List.mem_singleton.1 hx]; exact h2) (by simp) (by simp)
    have c2 := cell_gr b2 ((Gr.refl _).alloc (.cells #[.int .i64 b.label] 3))
    have HOL := Lib.hid (show OwnI 3 w.heap.size ((w.alloc (.cells #[.int .i64 b.kind, .int .i64 b.label, .slice ba b.kids.length bc] 55)).alloc (.cells #[.int .i64 b.label] 3)) (.slice (some ⟨w.heap.size + 1, 0, none⟩) 1 1) (pre ++ (b.kids.take 0).flatMap (stepsN n)) by rw [hpre]; exact OL)
    clear hk hpre OL bb GA
    go_enter Tryz.func21, Tryz.ntmps21
    go_wp2_with fail
    go_loopw [3, 15] (fun out iv wr => ∃ i : Nat, iv = .int .i64 i ∧ i ≤ b.kids.length ∧ Gr w wr ∧ OwnI 3 w.heap.size wr out (pre ++ (b.kids.take i).flatMap (stepsN n))) (fun out iv _ => b.kids.length - (intOf iv).toNat)
    case atStart => exact ⟨0, rfl, Nat.zero_le _, GL, HOL.out⟩
    case round =>
      rename World => wr
      obtain ⟨i, rfl, hi, hgr, hO⟩ := hrel
      by_cases hlt : i < b.kids.length
      · obtain ⟨m, g, o, s, hm, rfl, c0, c1, c2, hk⟩ := kid_at (HB.out.gr hgr) hlt
        obtain ⟨_, _, ka, kc, e1, _, _, _⟩ := hk.open_
        have es : s = .slice ka (ix b.kids i).kids.length kc := by
          have := congrArg (fun v => match v with | Value.agg cs => cs.toList | _ => []) e1
          simp at this; exact this
        subst es
        obtain ⟨k, hke⟩ : ∃ k, k = ix b.kids i := ⟨_, rfl⟩
        have hfl := flat_le (f := stepsN n) hlt
        have hfu := flat_upto (f := stepsN n) hlt
        rw [← hke] at c0 c1 c2 hk hfl hfu
        have gk : Gr wr (wr.alloc (.cells #[.int .i64 k.kind, .int .i64 k.label, .slice ka k.kids.length kc] 55)) := (Gr.refl _).alloc _
        have bk : Blk (wr.alloc (.cells #[.int .i64 k.kind, .int .i64 k.label, .slice ka k.kids.length kc] 55)) wr.heap.size 55 #[.int .i64 k.kind, .int .i64 k.label, .slice ka k.kids.length kc] := Blk.new rfl
        have k0 := bk.cell (i := 0) rfl
        have k1 := bk.cell (i := 1) rfl
        have k2 := bk.cell (i := 2) rfl
        have hlen := HL.out
        have hcall := hS m hm _ k _ (hk.gr gk) (by rw [← hm]; omega)
        rw [← hm] at hcall
        have HC := Lib.hid hcall
        have HU := Lib.hid hfu
        have HLE := Lib.hid (show (pre ++ (b.kids.take i).flatMap (stepsN n)).length + (stepsN n k).length ≤ 17592186044416 by rw [List.length_append]; omega)
        obtain ⟨done, hdn⟩ : ∃ d, d = pre ++ (b.kids.take i).flatMap (stepsN n) := ⟨_, rfl⟩
        obtain ⟨new, hnw⟩ : ∃ d, d = stepsN n k := ⟨_, rfl⟩
        rw [← hdn] at hO HLE
        rw [← hnw] at HC HU HLE
        have HDN := Lib.hid hdn
        obtain ⟨oa, oc, rfl⟩ := hO.len_eq
        have hO2 := hO.gr gk
        have HG := Lib.hid (hgr.trans gk)
        have hiz : (i : Int) < (b.kids.length : Int) := by omega
        have hi0 : (0 : Int) ≤ (i : Int) := by omega
        clear hke hfl hfu hk e1 bk hcall hdn hnw hO gk hlen hm hgr
        go_wp2_with fail
        refine HC.out.mono ?_
        rintro _ w2 ⟨v2, rfl, o2, g2⟩
        obtain ⟨a2, c2', rfl⟩ := o2.len_eq
        have hI2 := o2.ints
        have hO3 := hO2.gr g2
        have HG2 := Lib.hid (HG.out.trans g2)
        have hbs : w.heap.size ≤ w2.heap.size := HG2.out.le
        clear hO2 o2 HC k0 k1 k2 c0 c1 c2
        go_wp2_with (at_builtin; go_loud (refine app_ints intTy _ _ w.heap.size (.slice oa done.length oc) (.slice a2 new.length c2') done new (by rfl) (by rfl) (by rfl) (by rfl) hO3 hI2 HLE.out hbs ?_; intro v6 w6 ho6 hgs6 hgb6 hat6))
        go_roundw
        case rel => exact ⟨i + 1, by go_num, by omega, hgs6 w (Nat.le_refl _) HG2.out, by rw [HU.out, ← List.append_assoc, ← HDN.out]; exact ho6⟩
        case measure => simp [intOf]; omega
      · obtain rfl : i = b.kids.length := by omega
        rw [List.take_length] at hO
        go_wp2_with fail
        go_ret
        exact ⟨_, rfl, by rw [HR.out]; exact hO, hgr⟩
  · rw [if_neg hk] at hpre
    have q1 : (b.kind == 2) = false := by simpa using hk
    have HOL := Lib.hid (show OwnI 3 w.heap.size (w.alloc (.cells #[.int .i64 b.kind, .int .i64 b.label, .slice ba b.kids.length bc] 55)) (.slice none 0 0) (pre ++ (b.kids.take 0).flatMap (stepsN n)) by rw [hpre]; exact OwnI.nil _ _ _)
    clear hk hpre bb
    go_enter Tryz.func21, Tryz.ntmps21
    go_wp2_with fail
    go_loopw [3, 15] (fun out iv wr => ∃ i : Nat, iv = .int .i64 i ∧ i ≤ b.kids.length ∧ Gr w wr ∧ OwnI 3 w.heap.size wr out (pre ++ (b.kids.take i).flatMap (stepsN n))) (fun out iv _ => b.kids.length - (intOf iv).toNat)
    case atStart => exact ⟨0, rfl, Nat.zero_le _, GA, HOL.out⟩
    case round =>
      rename World => wr
      obtain ⟨i, rfl, hi, hgr, hO⟩ := hrel
      by_cases hlt : i < b.kids.length
      · obtain ⟨m, g, o, s, hm, rfl, c0, c1, c2, hk⟩ := kid_at (HB.out.gr hgr) hlt
        obtain ⟨_, _, ka, kc, e1, _, _, _⟩ := hk.open_
        have es : s = .slice ka (ix b.kids i).kids.length kc := by
          have := congrArg (fun v => match v with | Value.agg cs => cs.toList | _ => []) e1
          simp at this; exact this
        subst es
        obtain ⟨k, hke⟩ : ∃ k, k = ix b.kids i := ⟨_, rfl⟩
        have hfl := flat_le (f := stepsN n) hlt
        have hfu := flat_upto (f := stepsN n) hlt
        rw [← hke] at c0 c1 c2 hk hfl hfu
        have gk : Gr wr (wr.alloc (.cells #[.int .i64 k.kind, .int .i64 k.label, .slice ka k.kids.length kc] 55)) := (Gr.refl _).alloc _
        have bk : Blk (wr.alloc (.cells #[.int .i64 k.kind, .int .i64 k.label, .slice ka k.kids.length kc] 55)) wr.heap.size 55 #[.int .i64 k.kind, .int .i64 k.label, .slice ka k.kids.length kc] := Blk.new rfl
        have k0 := bk.cell (i := 0) rfl
        have k1 := bk.cell (i := 1) rfl
        have k2 := bk.cell (i := 2) rfl
        have hlen := HL.out
        have hcall := hS m hm _ k _ (hk.gr gk) (by rw [← hm]; omega)
        rw [← hm] at hcall
        have HC := Lib.hid hcall
        have HU := Lib.hid hfu
        have HLE := Lib.hid (show (pre ++ (b.kids.take i).flatMap (stepsN n)).length + (stepsN n k).length ≤ 17592186044416 by rw [List.length_append]; omega)
        obtain ⟨done, hdn⟩ : ∃ d, d = pre ++ (b.kids.take i).flatMap (stepsN n) := ⟨_, rfl⟩
        obtain ⟨new, hnw⟩ : ∃ d, d = stepsN n k := ⟨_, rfl⟩
        rw [← hdn] at hO HLE
        rw [← hnw] at HC HU HLE
        have HDN := Lib.hid hdn
        obtain ⟨oa, oc, rfl⟩ := hO.len_eq
        have hO2 := hO.gr gk
        have HG := Lib.hid (hgr.trans gk)
        have hiz : (i : Int) < (b.kids.length : Int) := by omega
        have hi0 : (0 : Int) ≤ (i : Int) := by omega
        clear hke hfl hfu hk e1 bk hcall hdn hnw hO gk hlen hm hgr
        go_wp2_with fail
        refine HC.out.mono ?_
        rintro _ w2 ⟨v2, rfl, o2, g2⟩
        obtain ⟨a2, c2', rfl⟩ := o2.len_eq
        have hI2 := o2.ints
        have hO3 := hO2.gr g2
        have HG2 := Lib.hid (HG.out.trans g2)
        have hbs : w.heap.size ≤ w2.heap.size := HG2.out.le
        clear hO2 o2 HC k0 k1 k2 c0 c1 c2
        go_wp2_with (at_builtin; go_loud (refine app_ints intTy _ _ w.heap.size (.slice oa done.length oc) (.slice a2 new.length c2') done new (by rfl) (by rfl) (by rfl) (by rfl) hO3 hI2 HLE.out hbs ?_; intro v6 w6 ho6 hgs6 hgb6 hat6))
        go_roundw
        case rel => exact ⟨i + 1, by go_num, by omega, hgs6 w (Nat.le_refl _) HG2.out, by rw [HU.out, ← List.append_assoc, ← HDN.out]; exact ho6⟩
        case measure => simp [intOf]; omega
      · obtain rfl : i = b.kids.length := by omega
        rw [List.take_length] at hO
        go_wp2_with fail
        go_ret
        exact ⟨_, rfl, by rw [HR.out]; exact hO, hgr⟩
theorem stepsB_ok : ∀ n, StepsOk n
  | 0 => steps_step 0 fun m h => by cases h
  | n + 1 => steps_step (n + 1) fun m h => by cases h; exact stepsB_ok n
end Go.Proofs.YtagdccgbcmnehaaGreat

namespace Go.Proofs.YtagdccgbcmnehaaGreat
open Go.RowKit Go.Tok
set_option linter.unusedVariables false
set_option maxHeartbeats 2000000 in
set_option maxRecDepth 100000 in
theorem MineOnce_walk {v : Value} {log : List (List Int)} (w : World) (hv0 : LogR w v log) : Calls Tryz.prog 5 #[v] w fun e w' => e = .returned (.bool true) ∧ Gr w w' := by
  have hv := hv0.rd
  clear hv0
  obtain ⟨a, cap, rfl, hlc, hcap⟩ := hv.len
  have HV := Lib.hid hv
  clear hv
  go_enter Tryz.func5, Tryz.ntmps5
  go_wp2_with fail
  refine (alive23_calls _).mono ?_
  rintro _ w1 ⟨rfl, g1⟩
  go_wp2_with fail
  refine (Mine_calls _ log _ (HV.out.gr g1)).mono ?_
  rintro _ w2 hret
  unfold RetMine at hret
  obtain ⟨vb, rfl, hf, g2⟩ := hret
  have hb : BlkW w2 vb (mineF log).1 := hf.now
  obtain ⟨va, vc, rfl⟩ := BlkW.agg hb
  obtain ⟨x, hx⟩ : ∃ x, x = (mineF log).2 := ⟨_, rfl⟩
  obtain ⟨b, hbe⟩ : ∃ b, b = (mineF log).1 := ⟨_, rfl⟩
  rw [← hx]
  rw [← hbe] at hb ⊢
  have HX := Lib.hid (And.intro hx hbe)
  have G2 := g1.trans g2
  have k2 : Blk (w2.alloc (.cells #[.int .i64 b.kind, .int .i64 b.label, .slice va b.kids.length vc] 55)) w2.heap.size 55 #[.int .i64 b.kind, .int .i64 b.label, .slice va b.kids.length vc] := Blk.new rfl
  have g3 : Gr w2 (w2.alloc (.cells #[.int .i64 b.kind, .int .i64 b.label, .slice va b.kids.length vc] 55)) := (Gr.refl _).alloc _
  have HB := Lib.hid (hb.gr g3)
  have G3 := G2.trans g3
  clear hf hb hx hbe g1 g2 g3 G2
  by_cases h0 : x = 0
  · subst h0
    have hm : (mineF log).2 = 0 := HX.out.1.symm
    obtain ⟨hR, e1, e2⟩ := mine_ok hm
    have HO := Lib.hid (Of_calls _ log _ (HV.out.gr G3))
    rw [ofM_is ((right_iff log).2 hR)] at HO
    obtain ⟨p, hp⟩ : ∃ p, p = ofM log := ⟨_, rfl⟩
    rw [← hp] at HO
    have HP := Lib.hid (And.intro hp (And.intro hR (And.intro e1 hm)))
    clear hp hR e1 e2 hm
    go_wp2_with fail
    refine HO.out.mono ?_
    rintro _ w4 hret
    unfold RetPr at hret
    obtain ⟨v1, v2, v3, v4, rfl, o1, o2, o3, o4, g4⟩ := hret
    obtain ⟨a1, c1, rfl⟩ := o1.len_eq
    obtain ⟨a2, c2, rfl⟩ := o2.len_eq
    obtain ⟨a3, c3, rfl⟩ := o3.len_eq
    obtain ⟨a4, c4, rfl, _, _⟩ := o4.len
    have g5 : Gr w4 (w4.alloc (.cells #[.slice a1 p.labels.length c1, .slice a2 p.first.length c2, .slice a3 p.last.length c3, .slice a4 p.behind.length c4] 60)) := (Gr.refl _).alloc _
    have q4 : Blk (w4.alloc (.cells #[.slice a1 p.labels.length c1, .slice a2 p.first.length c2, .slice a3 p.last.length c3, .slice a4 p.behind.length c4] 60)) w4.heap.size 60 #[.slice a1 p.labels.length c1, .slice a2 p.first.length c2, .slice a3 p.last.length c3, .slice a4 p.behind.length c4] := Blk.new rfl
    have k4 := k2.gr (g4.trans g5)
    have G4 := G3.trans (g4.trans g5)
    have I4 := Lib.hid (o1.ints.gr g5)
    have s0 := k4.cell (i := 0) rfl
    have s1 := k4.cell (i := 1) rfl
    have s2 := k4.cell (i := 2) rfl
    obtain ⟨n, hn⟩ := HB.out.gr (g4.trans g5)
    have hn2 := blockR_more (show n ≤ n + (fuelM + 2) by omega) hn
    have hperm : (stepsN (n + (fuelM + 2) + 1) b).Perm p.labels := by
      have := find_once fuelM log (fuel_right HP.out.2.1) (n + (fuelM + 2) + 1) (by omega)
      rw [← HP.out.2.2.1, ← HX.out.2, ← HP.out.1] at this
      exact this
    have hll : p.labels.length ≤ 26 := by rw [HP.out.1]; exact lab_len HP.out.2.1
    have hsl : (stepsN (n + (fuelM + 2) + 1) b).length ≤ 1000000 := by rw [hperm.length_eq]; omega
    have hsort : sortI (stepsN (n + (fuelM + 2) + 1) b) = p.labels := by
      have := (mine_once HP.out.2.2.2 (n + (fuelM + 2) + 1) (by omega)).1
      rw [← HX.out.2, ofM_is ((right_iff log).2 HP.out.2.1)] at this
      rw [this, HP.out.1]
    have HS := Lib.hid (stepsB_ok _ _ b _ hn2 hsl)
    obtain ⟨st, hst⟩ : ∃ st, st = stepsN (n + (fuelM + 2) + 1) b := ⟨_, rfl⟩
    rw [← hst] at HS hsort hsl
    have HSO := Lib.hid hsort
    have HSL := Lib.hid hsl
    clear hst hn hn2 hperm hll hsort hsl o1 o2 o3 o4 g4 g5 k2 k4 HO G3
    go_wp2_with fail
    refine HS.out.mono ?_
    rintro _ w6 ⟨v6, rfl, o6, g6⟩
    obtain ⟨a6, c6, rfl⟩ := o6.len_eq
    have q6 := q4.gr g6
    have G6 := G4.trans g6
    have I6 := Lib.hid (I4.out.gr g6)
    clear s0 s1 s2 q4 HS
    rcases o6.form with ⟨e, e'⟩ | ⟨g, cp, e, hgb, _⟩
    · subst e'
      cases e
      have hsrt : Hid (p.labels = []) := Lib.hid (by rw [← HSO.out, sortI_isI]; rfl)
      have E0 := q6.cell (i := 0) rfl
      go_wp2_with fail
      refine (Sort_nil (.slice none 0 0) _).mono ?_
      rintro _ w7 ⟨rfl, rfl⟩
      go_wp2_with fail
      refine (Equal_calls _ _ [] p.labels _ (Ints.nil _) I6.out).mono ?_
      rw [show eqB [] p.labels = true by rw [hsrt.out]; exact eqB_yes rfl]
      rintro _ w8 ⟨rfl, g8⟩
      go_wp2_with fail
      go_ret
      exact ⟨rfl, G6.trans g8⟩
    · cases e
      have HSR := Lib.hid (Sort_calls g _ _ st _ o6 (by have := HSL.out; omega))
      rw [HSO.out] at HSR
      have hq : w4.heap.size < w6.heap.size := q6.lt
      have hgq : w4.heap.size < g := by simp at hgb; omega
      have HQ := Lib.hid (And.intro hgb hgq)
      clear o6 hgb hgq hq
      go_wp2_with fail
      refine HSR.out.mono ?_
      rintro _ w7 ⟨rfl, o7, hgr7⟩
      have q7 := q6.grown hgr7 (fun e => by cases e; have := HQ.out.2; omega)
      have E0 := q7.cell (i := 0) rfl
      have G7 : Gr (w4.alloc (.cells #[.slice a1 p.labels.length c1, .slice a2 p.first.length c2, .slice a3 p.last.length c3, .slice a4 p.behind.length c4] 60)) w7 := g6.grown hgr7 (fun k hk => by cases hk; exact HQ.out.1)
      have I7 := Lib.hid (I4.out.gr G7)
      have HO7 := Lib.hid o7.ints
      clear q6 q7 o7 hgr7 g6 HSR
      go_wp2_with fail
      refine (Equal_calls _ _ p.labels p.labels _ HO7.out I7.out).mono ?_
      rw [eqB_yes (rfl : p.labels = p.labels)]
      rintro _ w8 ⟨rfl, g8⟩
      go_wp2_with fail
      go_ret
      exact ⟨rfl, G4.trans (G7.trans g8)⟩
  · have hx1 : (x != 0) = true := by simpa using h0
    go_wp2_with fail
    go_ret
    exact ⟨rfl, G3⟩
end Go.Proofs.YtagdccgbcmnehaaGreat

namespace Go.Proofs.YtagdccgbcmnehaaGreat.lawMineOnce
open Go.RowKit Go.Tok Go.ChangeShapes Go.WideShapes Go.ChangeAt
set_option linter.unusedVariables false

theorem readablesMineOnce : ∀ t ∈ Tryz.f5.params.toList, Tryz.prog.readableRec t = true ∧ t < Tryz.prog.types.size := by
  have h : (Tryz.f5.params.toList.all fun t => Tryz.prog.readableRec t && decide (t < Tryz.prog.types.size)) = true := by kernel_rfl
  intro t ht
  simpa using List.all_eq_true.1 h t ht

set_option maxRecDepth 100000 in
theorem contract (H : Type) (enc : TypeId × Value → H) (W : World) (base : Nat) (args : Array Value) (ds gs : List (DataW H)) (before : List MemPlace)
    (hval : ∀ (j : Nat) t v, Tryz.f5.params[j]? = some t → args[j]? = some v → Value.okWide Tryz.prog W .any base t v)
    (hW : DataW.Whole enc Tryz.prog Tryz.f5.params.toList Rows.mineOnceSpec.vars false W args.toList ds gs before)
    (hz : ∀ n ∈ DataW.weightsEach Tryz.prog Tryz.f5.params.toList ds, n ≤ reachBytes) :
    Calls Tryz.prog 5 args W fun e W' => ∃ v, e = .returned v ∧ Rows.mineOnceSpec.post enc Tryz.prog Tryz.f5 false true false false W args v W' := by
  have hW' := hW
  obtain ⟨p, q, hA0, hV, rfl, hfz, hnd⟩ := hW
  have hA : DataW.TrodAll enc Tryz.prog W 0 (fun _ => true) true Tryz.f5.params.toList args.toList ds p := hA0
  rw [Tryz.params5] at hA hval hz
  obtain ⟨v0, vs0, d0, ds0, p0, q0, hargs, rfl, rfl, h0, r0⟩ := trodAll_cons hA
  obtain ⟨rfl, rfl, rfl⟩ := trodAll_nil r0
  obtain rfl : args = #[v0] := by cases args; simp_all
  obtain ⟨rfl, rfl⟩ := trodVars_none hV
  clear hA0
  simp only [List.append_nil] at hW'
  obtain ⟨x0, i0⟩ := log_arg W (hval 0 28 v0 rfl rfl) h0 (fun n hn => hz n (DataW.weights_mem_each (j := 0) rfl rfl n hn))
  refine (MineOnce_walk W i0).mono fun e W' ⟨he, hg⟩ => ⟨.bool true, he, ?_⟩
  exact law_post laidOut (fun t ht => readablesMineOnce t ht) Tryz.underlying4 rfl rfl rfl hW' hg

set_option maxRecDepth 100000 in
theorem lifted (os : Os) (started : os.Started) (H : Type) (enc : TypeId × Value → H) :
    ReturnsInHanded {} Tryz.checked os 5 .any (Rows.mineOnceSpec.pre6 enc Tryz.prog Tryz.f5 Rows.mineOnceRow.domain false) (Rows.mineOnceSpec.post enc Tryz.prog Tryz.f5 false true false false) := by
  refine returnsInHanded_of_change_sized (C := Tryz.checked) own started (by kernel_rfl) Tryz.func5
    (ChangeSpec.witness6 (enc := enc) (C := Tryz.checked) false ⟨#[], #[.slice none 0 0], []⟩ 8 (by kernel_rfl) (by kernel_rfl) (by kernel_rfl) (by kernel_rfl)) ?_
  intro W base args ds gs before hval hW _ hz _
  have hgs : gs = [] := by obtain ⟨p, q, _, hV, _⟩ := hW; exact (trodVars_none hV).1
  subst hgs
  exact contract H enc W base args ds [] before hval hW (fun n hn => of_decide_eq_true (List.all_eq_true.1 hz n (by show n ∈ DataW.weightsEach Tryz.prog (Tryz.f5.params.toList ++ []) (ds ++ []); rw [weightsEach_nil]; exact hn)))

theorem proved : Rows.MineOnceSaid :=
  OpenClaim.holds_of_wide 5 Tryz.f5 rfl rfl rfl rfl rfl rfl rfl ⟨rfl, rfl, rfl, rfl, rfl⟩ rfl rfl rfl rfl rfl (by kernel_rfl) Tryz.func5 (by kernel_rfl)
    (of_decide_eq_true (by kernel_rfl)) (by unfold Func.isWrapper; first | (rw [if_pos (by decide +kernel)]; kernel_rfl) | (rw [if_neg (by decide +kernel)]; exact ⟨rfl, rfl⟩))
    (fun os started H enc _ => lifted os started H enc)

end Go.Proofs.YtagdccgbcmnehaaGreat.lawMineOnce

