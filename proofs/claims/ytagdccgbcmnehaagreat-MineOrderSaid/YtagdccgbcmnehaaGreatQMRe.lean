/- Texts of one family, joined; what the claim does not need is left out. -/
import Derived.Test.YtagdccgbcmnehaaGreatQMRb
import Derived.Test.YtagdccgbcmnehaaGreatQMRd
import Derived.Test.YtagdccgbcmnehaaGreatQMRa
import Derived.Laws.StructEq
import Derived.Ground.SlsfProg
import Derived.Shelf.SlSortCmp.WholeK
import Derived.Shelf.SlSortCmp.Whole1
import Derived.Shelf.SlSortCmp.NoneTotal
import Derived.Test.YtagdccgbcmnehaaGreatProg
import Derived.Maps.RangeRun
import Derived.Maps.Range
import Derived.WideKeyEntry
namespace Go.Tok
open Go.RowKit
set_option linter.unusedVariables false
theorem blkK_up : ∀ (n : Nat) {w : World} {vs : List Value} {b : BlockD}, (blkK n).R w vs b → (blkK (n + 1)).R w vs b := by
  intro n
  induction n with
  | zero => intro w vs b h; exact h.elim
  | succ n ih =>
    intro w vs b h
    obtain ⟨s, h1, h2, h3, h4⟩ := h
    refine ⟨s, h1, h2, h3, ?_⟩
    unfold Rd at *
    obtain ⟨a, cap, e1, e2, e3, e4, e5⟩ := h4
    refine ⟨a, cap, e1, e2, e3, e4, fun i hi => ?_⟩
    obtain ⟨bk, o, vs', k1, k2, k3⟩ := e5 i hi
    refine ⟨bk, o, vs', k1, ih k2, fun j u hj => ?_⟩
    have := k3 j u hj
    rw [blkK_size] at this ⊢
    exact this
theorem blkK_more {n m : Nat} (h : n ≤ m) {w : World} {vs : List Value} {b : BlockD} (hb : (blkK n).R w vs b) : (blkK m).R w vs b := by
  induction m with
  | zero => have : n = 0 := by omega
            subst this; exact hb
  | succ m ih =>
    by_cases e : n = m + 1
    · subst e; exact hb
    · exact blkK_up m (ih (by omega))
/-- blocks as elements of rows, of whatever depth -/
def blkW : Kind BlockD :=
  ⟨3, fun w vs b => ∃ n, (blkK n).R w vs b, fun ⟨n, h⟩ => ((blkK n).len h).trans (blkK_size n), fun ⟨n, h⟩ => (blkK n).one h, fun k ⟨n, h⟩ => ⟨n, (blkK n).mono k h⟩⟩
def BlkW (w : World) (v : Value) (b : BlockD) : Prop := ∃ n, BlockR n w v b
theorem rd_up {n m : Nat} (h : n ≤ m) {w : World} {v : Value} {ks : List BlockD} (hr : Rd (blkK n) w v ks) : Rd (blkK m) w v ks := by
  unfold Rd at *
  obtain ⟨a, cap, e1, e2, e3, e4, e5⟩ := hr
  refine ⟨a, cap, e1, e2, e3, e4, fun i hi => ?_⟩
  obtain ⟨bk, o, vs', k1, k2, k3⟩ := e5 i hi
  refine ⟨bk, o, vs', k1, blkK_more h k2, fun j u hj => ?_⟩
  have := k3 j u hj
  rw [blkK_size] at this ⊢
  exact this
theorem rd_out {n : Nat} {w : World} {v : Value} {ks : List BlockD} (hr : Rd (blkK n) w v ks) : Rd blkW w v ks := by
  unfold Rd at *
  obtain ⟨a, cap, e1, e2, e3, e4, e5⟩ := hr
  refine ⟨a, cap, e1, e2, e3, e4, fun i hi => ?_⟩
  obtain ⟨bk, o, vs', k1, k2, k3⟩ := e5 i hi
  refine ⟨bk, o, vs', k1, ⟨n, k2⟩, fun j u hj => ?_⟩
  have := k3 j u hj
  rw [blkK_size] at this
  exact this
theorem rd_in {w : World} {v : Value} {ks : List BlockD} (hr : Rd blkW w v ks) : ∃ n, Rd (blkK n) w v ks := by
  unfold Rd at *
  obtain ⟨a, cap, e1, e2, e3, e4, e5⟩ := hr
  have key : ∀ k, k ≤ ks.length → ∃ n, ∀ i, i < k → ∃ b o vs, a = some ⟨b, o, none⟩ ∧ (blkK n).R w vs (ix ks i) ∧ ∀ j u, vs[j]? = some u → w.cell? ⟨b, o + i * 3 + j, none⟩ = some u := by
    intro k
    induction k with
    | zero => intro _; exact ⟨0, fun i hi => by omega⟩
    | succ k ih =>
      intro hk
      obtain ⟨n, h⟩ := ih (by omega)
      obtain ⟨b, o, vs, k1, ⟨m, k2⟩, k3⟩ := e5 k (by omega)
      refine ⟨max n m, fun i hi => ?_⟩
      by_cases e : i = k
      · subst e
        exact ⟨b, o, vs, k1, blkK_more (by omega) k2, k3⟩
      · obtain ⟨b, o, vs, q1, q2, q3⟩ := h i (by omega)
        exact ⟨b, o, vs, q1, blkK_more (by omega) q2, q3⟩
  obtain ⟨n, h⟩ := key ks.length (Nat.le_refl _)
  refine ⟨n, a, cap, e1, e2, e3, e4, fun i hi => ?_⟩
  obtain ⟨b, o, vs, q1, q2, q3⟩ := h i hi
  exact ⟨b, o, vs, q1, q2, fun j u hj => by rw [blkK_size]; exact q3 j u hj⟩
theorem BlkW.mk_ {w : World} {s : Value} {b : BlockD} (h1 : I64 b.kind) (h2 : I64 b.label) (h : Rd blkW w s b.kids) : BlkW w (.agg #[.int .i64 b.kind, .int .i64 b.label, s]) b := by
  obtain ⟨n, h⟩ := rd_in h
  exact ⟨n, BlockR.mk_ h1 h2 h⟩
theorem BlkW.open_ {w : World} {v : Value} {b : BlockD} (h : BlkW w v b) : I64 b.kind ∧ I64 b.label ∧ ∃ a cap, v = .agg #[.int .i64 b.kind, .int .i64 b.label, .slice a b.kids.length cap] ∧ b.kids.length ≤ cap ∧ cap ≤ 9223372036854775807 ∧ Rd blkW w (.slice a b.kids.length cap) b.kids := by
  obtain ⟨n, h⟩ := h
  obtain ⟨h1, h2, a, cap, h3, h4, h5, h6⟩ := h.open_
  exact ⟨h1, h2, a, cap, h3, h4, h5, rd_out h6⟩
theorem BlkW.gr {w w' : World} {v : Value} {b : BlockD} (h : BlkW w v b) (g : Gr w w') : BlkW w' v b := by
  obtain ⟨n, h⟩ := h
  exact ⟨n, h.gr g⟩
/-- the three cells of a block that reads -/
theorem blkW_cells {w : World} {a : Option Addr} {cap : Nat} {b : BlockD} (h : BlkW w (.agg #[.int .i64 b.kind, .int .i64 b.label, .slice a b.kids.length cap]) b) : blkW.R w [.int .i64 b.kind, .int .i64 b.label, .slice a b.kids.length cap] b := by
  obtain ⟨n, s, h1, h2, h3, h4⟩ := h
  refine ⟨n + 1, s, ?_, h2, h3, h4⟩
  have : Value.slice a b.kids.length cap = s := by
    have := congrArg (fun v => match v with | Value.agg cs => cs.toList | _ => []) h1
    simp at this
    exact this
  rw [this]
theorem kid_atW {w : World} {a : Option Addr} {l cap : Nat} {ks : List BlockD} (h : Rd blkW w (.slice a l cap) ks) {i : Nat} (hi : i < ks.length) :
    ∃ g o s, a = some ⟨g, o, none⟩ ∧ w.cell? ⟨g, o + i * 3, none⟩ = some (.int .i64 (ix ks i).kind) ∧ w.cell? ⟨g, o + i * 3 + 1, none⟩ = some (.int .i64 (ix ks i).label) ∧ w.cell? ⟨g, o + i * 3 + 2, none⟩ = some s ∧ BlkW w (.agg #[.int .i64 (ix ks i).kind, .int .i64 (ix ks i).label, s]) (ix ks i) := by
  obtain ⟨n, h⟩ := rd_in h
  obtain ⟨m, g, o, s, _, h1, h2, h3, h4, h5⟩ := kid_at h hi
  exact ⟨g, o, s, h1, h2, h3, h4, m, h5⟩
end Go.Tok

namespace Go.Proofs.YtagdccgbcmnehaaGreat
open Go.RowKit Go.Tok
set_option linter.unusedVariables false
set_option maxHeartbeats 1000000 in
theorem mineSilent_calls (w : World) : Calls Tryz.prog 107 #[] w fun e w' => e = .returned (.agg #[.int .i64 1, .int .i64 0, .slice none 0 0]) ∧ Gr w w' := by
  have b := Blk.new (w := w) (H := w.heap.size) (t := 55) (cs := #[.int .i64 1, .int .i64 0, .slice none 0 0]) rfl
  have c0 := b.cell (i := 0) (v := .int .i64 1) rfl
  have c1 := b.cell (i := 1) (v := .int .i64 0) rfl
  have c2 := b.cell (i := 2) (v := .slice none 0 0) rfl
  go_enter Tryz.func107, Tryz.ntmps107
  go_wp2_with fail
  refine bodyPost_ret (v := .agg #[.int .i64 1, .int .i64 0, .slice none 0 0]) (by simp [results, Tryz.results107, go_sem, c0, c1, c2]) rfl ?_
  exact ⟨rfl, (Gr.refl _).alloc _⟩
set_option maxHeartbeats 1000000 in
theorem mineStep_calls (a : Int) (w : World) : Calls Tryz.prog 110 #[.int .i64 a] w fun e w' => e = .returned (.agg #[.int .i64 2, .int .i64 a, .slice none 0 0]) ∧ Gr w w' := by
  have b := Blk.new (w := w) (H := w.heap.size) (t := 55) (cs := #[.int .i64 2, .int .i64 a, .slice none 0 0]) rfl
  have c0 := b.cell (i := 0) (v := .int .i64 2) rfl
  have c1 := b.cell (i := 1) (v := .int .i64 a) rfl
  have c2 := b.cell (i := 2) (v := .slice none 0 0) rfl
  go_enter Tryz.func110, Tryz.ntmps110
  go_wp2_with fail
  refine bodyPost_ret (v := .agg #[.int .i64 2, .int .i64 a, .slice none 0 0]) (by simp [results, Tryz.results110, go_sem, c0, c1, c2]) rfl ?_
  exact ⟨rfl, (Gr.refl _).alloc _⟩
set_option maxHeartbeats 1000000 in
theorem mineBlock_calls (k : Int) (a : Option Addr) (n c : Nat) (w : World) : Calls Tryz.prog 108 #[.int .i64 k, .slice a n c] w fun e w' => e = .returned (.agg #[.int .i64 k, .int .i64 0, .slice a n c]) ∧ Gr w w' := by
  have b := Blk.new (w := w) (H := w.heap.size) (t := 55) (cs := #[.int .i64 k, .int .i64 0, .slice a n c]) rfl
  have c0 := b.cell (i := 0) (v := .int .i64 k) rfl
  have c1 := b.cell (i := 1) (v := .int .i64 0) rfl
  have c2 := b.cell (i := 2) (v := .slice a n c) rfl
  go_enter Tryz.func108, Tryz.ntmps108
  go_wp2_with fail
  refine bodyPost_ret (v := .agg #[.int .i64 k, .int .i64 0, .slice a n c]) (by simp [results, Tryz.results108, go_sem, c0, c1, c2]) rfl ?_
  exact ⟨rfl, (Gr.refl _).alloc _⟩
theorem find1_calls (v : Value) (t : List Int) (w : World) (hv : Ints w v t) : Calls Tryz.prog 106 #[v] w fun e w' => e = .returned (.bool (decide (t.length = 0))) ∧ Gr w w' := by
  obtain ⟨a, c, rfl, _, _⟩ := hv.len
  have e : ((t.length : Int) == 0) = decide (t.length = 0) := by
    cases h : decide (t.length = 0) with
    | true => have := of_decide_eq_true h; simp [this]
    | false =>
      have := of_decide_eq_false h
      rw [beq_eq_false_iff_ne]; omega
  go_enter Tryz.func106, Tryz.ntmps106
  go_wp2_with fail
  go_ret
  exact ⟨ret_bool (by first | exact e | simp), Gr.refl _⟩
theorem find2_calls (v : Value) (t : List Int) (w : World) (hv : Ints w v t) : Calls Tryz.prog 112 #[v] w fun e w' => e = .returned (.bool (decide (1 < t.length))) ∧ Gr w w' := by
  obtain ⟨a, c, rfl, _, _⟩ := hv.len
  go_enter Tryz.func112, Tryz.ntmps112
  go_wp2_with fail
  go_ret
  exact ⟨ret_bool (by first | rfl | (simp; done) | (rw [decide_eq_decide]; omega)), Gr.refl _⟩
end Go.Proofs.YtagdccgbcmnehaaGreat

namespace Go.Proofs.YtagdccgbcmnehaaGreat
open Go.RowKit Go.Tok
set_option linter.unusedVariables false
set_option maxRecDepth 100000 in
theorem run_eq_pair (x1 x2 y1 y2 : Int) (w : World) : (Op.equalIn 10000 127 (.agg #[.int .i64 x1, .int .i64 x2]) (.agg #[.int .i64 y1, .int .i64 y2])).run Tryz.prog w = .ok ((x1 == y1) && (x2 == y2)) w := by
  show (Op.equalIn (9998 + 1 + 1) 127 _ _).run Tryz.prog w = _
  rw [Op.equalIn]
  simp only [Sem.run_bind, run_underlying Tryz.underlying127, Result.andThen_ok]
  rcases h1 : x1 == y1 with _ | _ <;> rcases h2 : x2 == y2 with _ | _ <;>
    simp [go_sem, Std.Legacy.Range.forIn_eq_forIn_range', List.range', h1, h2, Tryz.underlying3, Tryz.sizeOf3]
end Go.Proofs.YtagdccgbcmnehaaGreat

namespace Go.Proofs.YtagdccgbcmnehaaGreat
open Go.RowKit Go.Tok
set_option linter.unusedVariables false
set_option maxHeartbeats 1000000 in
theorem run_slice1 {b o n cap : Nat} (h : n + 1 ≤ cap) (h2 : cap ≤ 9223372036854775807) (w : World) :
    (Go.Instr.slice 24 (.slice (some ⟨b, o, none⟩) (n + 1) cap) (some (.int .i64 1)) none none).run Tryz.prog w = .ok (.slice (some (if cap = 1 then ⟨b, o, none⟩ else ⟨b, o + 1, none⟩)) n (cap - 1)) w := by
  have h3 : (0 : Int) ≤ 1 ∧ (1 : Int) ≤ ((n + 1 : Nat) : Int) := by omega
  unfold Go.Instr.slice
  simp only [Sem.run_bind, run_underlying Tryz.underlying24, Result.andThen_ok]
  unfold Go.Instr.sliceBounds Go.Instr.sliceBound
  simp only [Sem.run_bind, Sem.run_pure, asIntOf, Result.andThen_ok, if_pos h3, Tryz.sizeOf3]
  have e : (1 : Int).toNat = 1 := rfl
  rw [e]
  by_cases hc : cap = 1
  · rw [if_pos hc, if_pos hc]; simp
  · rw [if_neg hc, if_neg hc]; simp [Addr.add]
end Go.Proofs.YtagdccgbcmnehaaGreat

namespace Go.Proofs
open Go.Shelf Go.RowKit Go.Lib Go.Sort
def Tryz.laysSlF06_pair_ren : Go.Shelf.Ren := ⟨fun | 6 => 117 | 15 => 63 | 14 => 166 | 28 => 128 | 29 => 129 | 20 => 195 | 21 => 196 | 22 => 197 | 23 => 198 | 24 => 199 | 25 => 200 | 26 => 201 | 27 => 202 | 46 => 214 | 47 => 169 | 48 => 170 | 49 => 215 | 50 => 216 | 57 => 219 | n => n, fun | 22 => 58 | 24 => 127 | 25 => 131 | 3 => 3 | 39 => 134 | 0 => 0 | 53 => 223 | 55 => 225 | 4 => 4 | 46 => 215 | 45 => 214 | 50 => 220 | 5 => 5 | 9 => 9 | 66 => 257 | 70 => 261 | 76 => 282 | 77 => 283 | n => n, fun | n => n⟩
theorem Tryz.laysSlF06_f117 : Go.Proofs.SlLaysF0.n6 Tryz.prog Tryz.laysSlF06_pair_ren := {
  mixed := by kernel_rfl
  f6 := ⟨Tryz.f117.name, by decide, Tryz.func117.trans (congrArg some (by kernel_rfl))⟩
  f14 := ⟨Tryz.f166.name, by decide, Tryz.func166.trans (congrArg some (by kernel_rfl))⟩
  f15 := Tryz.func63.trans (congrArg some (by kernel_rfl))
  f20 := ⟨Tryz.f195.name, by decide, Tryz.func195.trans (congrArg some (by kernel_rfl))⟩
  f21 := ⟨Tryz.f196.name, by decide, Tryz.func196.trans (congrArg some (by kernel_rfl))⟩
  f22 := ⟨Tryz.f197.name, by decide, Tryz.func197.trans (congrArg some (by kernel_rfl))⟩
  f23 := ⟨Tryz.f198.name, by decide, Tryz.func198.trans (congrArg some (by kernel_rfl))⟩
  f24 := ⟨Tryz.f199.name, by decide, Tryz.func199.trans (congrArg some (by kernel_rfl))⟩
  f25 := ⟨Tryz.f200.name, by decide, Tryz.func200.trans (congrArg some (by kernel_rfl))⟩
  f26 := ⟨Tryz.f201.name, by decide, Tryz.func201.trans (congrArg some (by kernel_rfl))⟩
  f27 := ⟨Tryz.f202.name, by decide, Tryz.func202.trans (congrArg some (by kernel_rfl))⟩
  f28 := Tryz.func128.trans (congrArg some (by kernel_rfl))
  f29 := Tryz.func129.trans (congrArg some (by kernel_rfl))
  f46 := ⟨Tryz.f214.name, by decide, Tryz.func214.trans (congrArg some (by kernel_rfl))⟩
  f47 := Tryz.func169.trans (congrArg some (by kernel_rfl))
  f48 := Tryz.func170.trans (congrArg some (by kernel_rfl))
  f49 := ⟨Tryz.f215.name, by decide, Tryz.func215.trans (congrArg some (by kernel_rfl))⟩
  f50 := ⟨Tryz.f216.name, by decide, Tryz.func216.trans (congrArg some (by kernel_rfl))⟩
  f57 := ⟨Tryz.f219.name, by decide, Tryz.func219.trans (congrArg some (by kernel_rfl))⟩
  t0 := Tryz.underlying0
  a0 := Tryz.isAgg0
  z0 := Tryz.sizeOf0
  v0 := Tryz.zeroValue0
  t3 := Tryz.underlying3
  a3 := Tryz.isAgg3
  z3 := Tryz.sizeOf3
  v3 := Tryz.zeroValue3
  t4 := Tryz.underlying4
  a4 := Tryz.isAgg4
  z4 := Tryz.sizeOf4
  v4 := Tryz.zeroValue4
  t5 := Tryz.underlying5
  a5 := Tryz.isAgg5
  z5 := Tryz.sizeOf5
  v5 := Tryz.zeroValue5
  t9 := Tryz.underlying9
  a9 := Tryz.isAgg9
  z9 := Tryz.sizeOf9
  v9 := Tryz.zeroValue9
  t22 := Tryz.underlying58
  a22 := Tryz.isAgg58
  z22 := Tryz.sizeOf58
  v22 := Tryz.zeroValue58
  t25 := Tryz.underlying131
  a25 := Tryz.isAgg131
  z25 := Tryz.sizeOf131
  v25 := Tryz.zeroValue131
  t39 := Tryz.underlying134
  a39 := Tryz.isAgg134
  z39 := Tryz.sizeOf134
  v39 := Tryz.zeroValue134
  t45 := Tryz.underlying214
  a45 := Tryz.isAgg214
  z45 := Tryz.sizeOf214
  v45 := Tryz.zeroValue214
  t46 := Tryz.underlying215
  a46 := Tryz.isAgg215
  z46 := Tryz.sizeOf215
  v46 := Tryz.zeroValue215
  t50 := Tryz.underlying220
  a50 := Tryz.isAgg220
  z50 := Tryz.sizeOf220
  v50 := Tryz.zeroValue220
  t53 := Tryz.underlying223
  a53 := Tryz.isAgg223
  z53 := Tryz.sizeOf223
  v53 := Tryz.zeroValue223
  t55 := Tryz.underlying225
  a55 := Tryz.isAgg225
  z55 := Tryz.sizeOf225
  v55 := Tryz.zeroValue225
  t66 := Tryz.underlying257
  a66 := Tryz.isAgg257
  z66 := Tryz.sizeOf257
  v66 := Tryz.zeroValue257
  t70 := Tryz.underlying261
  a70 := Tryz.isAgg261
  z70 := Tryz.sizeOf261
  v70 := Tryz.zeroValue261
  t76 := Tryz.underlying282
  a76 := Tryz.isAgg282
  z76 := Tryz.sizeOf282
  v76 := Tryz.zeroValue282
  t77 := Tryz.underlying283
  a77 := Tryz.isAgg283
  z77 := Tryz.sizeOf283
  v77 := Tryz.zeroValue283 }
theorem Tryz.slices_SortFunc_pair {α : Type} [Inhabited α] (k : Nat) (aE : ∀ w, (isAgg 127).run Tryz.prog w = .ok true w) (zE : ∀ w, (Go.sizeOf 127).run Tryz.prog w = .ok k w) (enc : α → List Value) (hk : ∀ x, (enc x).length = k) (h1 : ∀ x, ∀ v ∈ enc x, v.oneCell' = true) (cf : α → α → Int) (hO : SWO (ltOf cf)) (g : Nat) (cb : Array Value) (blk off cap : Nat) (d : Array α) (w : World) (eg : ∀ args w, (callFunc g args).run Tryz.prog w = .ok (.enter g args) w) (hcmp : CmpLays Tryz.prog g cb enc k cf blk off d.size w) (hH : HoldsK enc k w blk off d) (hblk : blk < w.heap.size) (hsz : d.size < 4611686018427387904) :
    Calls Tryz.prog 117 #[.slice (some ⟨blk, off, none⟩) d.size cap, .func (.func g) #[] cb] w fun e w' =>
      e = .returned (.tuple #[]) ∧ ∃ d' n os, PermIn 0 d.size d d' ∧ SortedIn (ltOf cf) 0 d.size d' ∧ w' = sortWorldK enc k w blk off n d' os := AnyQ.slices_SortFunc Tryz.laysSlF06_f117 k aE zE enc hk h1 cf hO g cb blk off cap d w eg hcmp hH hblk hsz
def Tryz.laysSlF6_int_ren : Go.Shelf.Ren := ⟨fun | 6 => 116 | 15 => 63 | 14 => 165 | 28 => 128 | 29 => 129 | 20 => 187 | 21 => 188 | 22 => 189 | 23 => 190 | 24 => 191 | 25 => 192 | 26 => 193 | 27 => 194 | 46 => 211 | 47 => 169 | 48 => 170 | 49 => 212 | 50 => 213 | 57 => 218 | n => n, fun | 22 => 24 | 24 => 3 | 25 => 129 | 3 => 3 | 39 => 134 | 0 => 0 | 53 => 223 | 55 => 225 | 4 => 4 | 46 => 215 | 45 => 214 | 50 => 220 | 5 => 5 | 9 => 9 | 66 => 257 | 70 => 261 | 76 => 282 | 77 => 283 | n => n, fun | n => n⟩
theorem Tryz.laysSlF6_f116 : Go.Proofs.SlLaysF.n6 Tryz.prog Tryz.laysSlF6_int_ren := {
  mixed := by kernel_rfl
  f6 := ⟨Tryz.f116.name, by decide, Tryz.func116.trans (congrArg some (by kernel_rfl))⟩
  f14 := ⟨Tryz.f165.name, by decide, Tryz.func165.trans (congrArg some (by kernel_rfl))⟩
  f15 := Tryz.func63.trans (congrArg some (by kernel_rfl))
  f20 := ⟨Tryz.f187.name, by decide, Tryz.func187.trans (congrArg some (by kernel_rfl))⟩
  f21 := ⟨Tryz.f188.name, by decide, Tryz.func188.trans (congrArg some (by kernel_rfl))⟩
  f22 := ⟨Tryz.f189.name, by decide, Tryz.func189.trans (congrArg some (by kernel_rfl))⟩
  f23 := ⟨Tryz.f190.name, by decide, Tryz.func190.trans (congrArg some (by kernel_rfl))⟩
  f24 := ⟨Tryz.f191.name, by decide, Tryz.func191.trans (congrArg some (by kernel_rfl))⟩
  f25 := ⟨Tryz.f192.name, by decide, Tryz.func192.trans (congrArg some (by kernel_rfl))⟩
  f26 := ⟨Tryz.f193.name, by decide, Tryz.func193.trans (congrArg some (by kernel_rfl))⟩
  f27 := ⟨Tryz.f194.name, by decide, Tryz.func194.trans (congrArg some (by kernel_rfl))⟩
  f28 := Tryz.func128.trans (congrArg some (by kernel_rfl))
  f29 := Tryz.func129.trans (congrArg some (by kernel_rfl))
  f46 := ⟨Tryz.f211.name, by decide, Tryz.func211.trans (congrArg some (by kernel_rfl))⟩
  f47 := Tryz.func169.trans (congrArg some (by kernel_rfl))
  f48 := Tryz.func170.trans (congrArg some (by kernel_rfl))
  f49 := ⟨Tryz.f212.name, by decide, Tryz.func212.trans (congrArg some (by kernel_rfl))⟩
  f50 := ⟨Tryz.f213.name, by decide, Tryz.func213.trans (congrArg some (by kernel_rfl))⟩
  f57 := ⟨Tryz.f218.name, by decide, Tryz.func218.trans (congrArg some (by kernel_rfl))⟩
  t0 := Tryz.underlying0
  a0 := Tryz.isAgg0
  z0 := Tryz.sizeOf0
  v0 := Tryz.zeroValue0
  t3 := Tryz.underlying3
  a3 := Tryz.isAgg3
  z3 := Tryz.sizeOf3
  v3 := Tryz.zeroValue3
  t4 := Tryz.underlying4
  a4 := Tryz.isAgg4
  z4 := Tryz.sizeOf4
  v4 := Tryz.zeroValue4
  t5 := Tryz.underlying5
  a5 := Tryz.isAgg5
  z5 := Tryz.sizeOf5
  v5 := Tryz.zeroValue5
  t9 := Tryz.underlying9
  a9 := Tryz.isAgg9
  z9 := Tryz.sizeOf9
  v9 := Tryz.zeroValue9
  t22 := Tryz.underlying24
  a22 := Tryz.isAgg24
  z22 := Tryz.sizeOf24
  v22 := Tryz.zeroValue24
  a24 := Tryz.isAgg3
  z24 := Tryz.sizeOf3
  t25 := Tryz.underlying129
  a25 := Tryz.isAgg129
  z25 := Tryz.sizeOf129
  v25 := Tryz.zeroValue129
  t39 := Tryz.underlying134
  a39 := Tryz.isAgg134
  z39 := Tryz.sizeOf134
  v39 := Tryz.zeroValue134
  t45 := Tryz.underlying214
  a45 := Tryz.isAgg214
  z45 := Tryz.sizeOf214
  v45 := Tryz.zeroValue214
  t46 := Tryz.underlying215
  a46 := Tryz.isAgg215
  z46 := Tryz.sizeOf215
  v46 := Tryz.zeroValue215
  t50 := Tryz.underlying220
  a50 := Tryz.isAgg220
  z50 := Tryz.sizeOf220
  v50 := Tryz.zeroValue220
  t53 := Tryz.underlying223
  a53 := Tryz.isAgg223
  z53 := Tryz.sizeOf223
  v53 := Tryz.zeroValue223
  t55 := Tryz.underlying225
  a55 := Tryz.isAgg225
  z55 := Tryz.sizeOf225
  v55 := Tryz.zeroValue225
  t66 := Tryz.underlying257
  a66 := Tryz.isAgg257
  z66 := Tryz.sizeOf257
  v66 := Tryz.zeroValue257
  t70 := Tryz.underlying261
  a70 := Tryz.isAgg261
  z70 := Tryz.sizeOf261
  v70 := Tryz.zeroValue261
  t76 := Tryz.underlying282
  a76 := Tryz.isAgg282
  z76 := Tryz.sizeOf282
  v76 := Tryz.zeroValue282
  t77 := Tryz.underlying283
  a77 := Tryz.isAgg283
  z77 := Tryz.sizeOf283
  v77 := Tryz.zeroValue283 }
theorem Tryz.slices_SortFunc_f116 {α : Type} [Inhabited α] (enc : α → Value) (h1 : OneCell enc) (cf : α → α → Int) (hO : SWO (ltOf cf)) (g : Nat) (cb : Array Value) (blk off cap : Nat) (d : Array α) (w : World) (eg : ∀ args w, (callFunc g args).run Tryz.prog w = .ok (.enter g args) w) (hcmp : CmpLays1 Tryz.prog g cb enc cf blk off d.size w) (hH : Holds enc w blk off d) (hblk : blk < w.heap.size) (hsz : d.size < 4611686018427387904) :
    Calls Tryz.prog 116 #[.slice (some ⟨blk, off, none⟩) d.size cap, .func (.func g) #[] cb] w fun e w' =>
      e = .returned (.tuple #[]) ∧ ∃ d' n os, PermIn 0 d.size d d' ∧ SortedIn (ltOf cf) 0 d.size d' ∧ w' = sortWorld enc w blk off n d' os := Any.slices_SortFunc Tryz.laysSlF6_f116 enc h1 cf hO g cb blk off cap d w eg hcmp hH hblk hsz
theorem Tryz.slices_SortFunc_none_f117 {α : Type} [Inhabited α] (p : Option Addr) (cap : Nat) (fv : Value) (w : World) :
    Calls Tryz.prog 117 #[.slice p 0 cap, fv] w fun e w' => e = .returned (.tuple #[]) ∧ w' = w := AnyF.slices_SortFunc_none Tryz.laysSlF06_f117 p cap fv w
def Tryz.laysSlF06_int_ren : Go.Shelf.Ren := ⟨fun | 6 => 116 | 15 => 63 | 14 => 165 | 28 => 128 | 29 => 129 | 20 => 187 | 21 => 188 | 22 => 189 | 23 => 190 | 24 => 191 | 25 => 192 | 26 => 193 | 27 => 194 | 46 => 211 | 47 => 169 | 48 => 170 | 49 => 212 | 50 => 213 | 57 => 218 | n => n, fun | 22 => 24 | 24 => 3 | 25 => 129 | 3 => 3 | 39 => 134 | 0 => 0 | 53 => 223 | 55 => 225 | 4 => 4 | 46 => 215 | 45 => 214 | 50 => 220 | 5 => 5 | 9 => 9 | 66 => 257 | 70 => 261 | 76 => 282 | 77 => 283 | n => n, fun | n => n⟩
theorem Tryz.laysSlF06_f116 : Go.Proofs.SlLaysF0.n6 Tryz.prog Tryz.laysSlF06_int_ren := {
  mixed := by kernel_rfl
  f6 := ⟨Tryz.f116.name, by decide, Tryz.func116.trans (congrArg some (by kernel_rfl))⟩
  f14 := ⟨Tryz.f165.name, by decide, Tryz.func165.trans (congrArg some (by kernel_rfl))⟩
  f15 := Tryz.func63.trans (congrArg some (by kernel_rfl))
  f20 := ⟨Tryz.f187.name, by decide, Tryz.func187.trans (congrArg some (by kernel_rfl))⟩
  f21 := ⟨Tryz.f188.name, by decide, Tryz.func188.trans (congrArg some (by kernel_rfl))⟩
  f22 := ⟨Tryz.f189.name, by decide, Tryz.func189.trans (congrArg some (by kernel_rfl))⟩
  f23 := ⟨Tryz.f190.name, by decide, Tryz.func190.trans (congrArg some (by kernel_rfl))⟩
  f24 := ⟨Tryz.f191.name, by decide, Tryz.func191.trans (congrArg some (by kernel_rfl))⟩
  f25 := ⟨Tryz.f192.name, by decide, Tryz.func192.trans (congrArg some (by kernel_rfl))⟩
  f26 := ⟨Tryz.f193.name, by decide, Tryz.func193.trans (congrArg some (by kernel_rfl))⟩
  f27 := ⟨Tryz.f194.name, by decide, Tryz.func194.trans (congrArg some (by kernel_rfl))⟩
  f28 := Tryz.func128.trans (congrArg some (by kernel_rfl))
  f29 := Tryz.func129.trans (congrArg some (by kernel_rfl))
  f46 := ⟨Tryz.f211.name, by decide, Tryz.func211.trans (congrArg some (by kernel_rfl))⟩
  f47 := Tryz.func169.trans (congrArg some (by kernel_rfl))
  f48 := Tryz.func170.trans (congrArg some (by kernel_rfl))
  f49 := ⟨Tryz.f212.name, by decide, Tryz.func212.trans (congrArg some (by kernel_rfl))⟩
  f50 := ⟨Tryz.f213.name, by decide, Tryz.func213.trans (congrArg some (by kernel_rfl))⟩
  f57 := ⟨Tryz.f218.name, by decide, Tryz.func218.trans (congrArg some (by kernel_rfl))⟩
  t0 := Tryz.underlying0
  a0 := Tryz.isAgg0
  z0 := Tryz.sizeOf0
  v0 := Tryz.zeroValue0
  t3 := Tryz.underlying3
  a3 := Tryz.isAgg3
  z3 := Tryz.sizeOf3
  v3 := Tryz.zeroValue3
  t4 := Tryz.underlying4
  a4 := Tryz.isAgg4
  z4 := Tryz.sizeOf4
  v4 := Tryz.zeroValue4
  t5 := Tryz.underlying5
  a5 := Tryz.isAgg5
  z5 := Tryz.sizeOf5
  v5 := Tryz.zeroValue5
  t9 := Tryz.underlying9
  a9 := Tryz.isAgg9
  z9 := Tryz.sizeOf9
  v9 := Tryz.zeroValue9
  t22 := Tryz.underlying24
  a22 := Tryz.isAgg24
  z22 := Tryz.sizeOf24
  v22 := Tryz.zeroValue24
  t25 := Tryz.underlying129
  a25 := Tryz.isAgg129
  z25 := Tryz.sizeOf129
  v25 := Tryz.zeroValue129
  t39 := Tryz.underlying134
  a39 := Tryz.isAgg134
  z39 := Tryz.sizeOf134
  v39 := Tryz.zeroValue134
  t45 := Tryz.underlying214
  a45 := Tryz.isAgg214
  z45 := Tryz.sizeOf214
  v45 := Tryz.zeroValue214
  t46 := Tryz.underlying215
  a46 := Tryz.isAgg215
  z46 := Tryz.sizeOf215
  v46 := Tryz.zeroValue215
  t50 := Tryz.underlying220
  a50 := Tryz.isAgg220
  z50 := Tryz.sizeOf220
  v50 := Tryz.zeroValue220
  t53 := Tryz.underlying223
  a53 := Tryz.isAgg223
  z53 := Tryz.sizeOf223
  v53 := Tryz.zeroValue223
  t55 := Tryz.underlying225
  a55 := Tryz.isAgg225
  z55 := Tryz.sizeOf225
  v55 := Tryz.zeroValue225
  t66 := Tryz.underlying257
  a66 := Tryz.isAgg257
  z66 := Tryz.sizeOf257
  v66 := Tryz.zeroValue257
  t70 := Tryz.underlying261
  a70 := Tryz.isAgg261
  z70 := Tryz.sizeOf261
  v70 := Tryz.zeroValue261
  t76 := Tryz.underlying282
  a76 := Tryz.isAgg282
  z76 := Tryz.sizeOf282
  v76 := Tryz.zeroValue282
  t77 := Tryz.underlying283
  a77 := Tryz.isAgg283
  z77 := Tryz.sizeOf283
  v77 := Tryz.zeroValue283 }
theorem Tryz.slices_SortFunc_none_f116 {α : Type} [Inhabited α] (p : Option Addr) (cap : Nat) (fv : Value) (w : World) :
    Calls Tryz.prog 116 #[.slice p 0 cap, fv] w fun e w' => e = .returned (.tuple #[]) ∧ w' = w := AnyF.slices_SortFunc_none Tryz.laysSlF06_f116 p cap fv w

end Go.Proofs

namespace Go.Tok
open Go.RowKit
theorem lex_at : ∀ (xs ys : List Int) (k : Nat), k ≤ xs.length → k ≤ ys.length → (∀ p, p < k → nth xs p = nth ys p) → lexC xs ys = lexC (xs.drop k) (ys.drop k) := by
  intro xs
  induction xs with
  | nil => intro ys k h1 _ _; simp at h1; subst h1; simp
  | cons x xs ih =>
    intro ys k h1 h2 h3
    cases k with
    | zero => simp
    | succ k =>
      cases ys with
      | nil => simp at h2
      | cons y ys =>
        have h0 := h3 0 (by omega)
        rw [nth_lt (by simp), nth_lt (by simp)] at h0
        simp only [List.getElem_cons_zero] at h0
        subst h0
        rw [List.drop_succ_cons, List.drop_succ_cons, ← ih ys k (by simpa using h1) (by simpa using h2) (fun p hp => by
          have := h3 (p + 1) (by omega)
          have hx : p < xs.length := by simp at h1; omega
          have hy : p < ys.length := by simp at h2; omega
          rw [nth_lt (by simp; omega), nth_lt (by simp; omega)] at this
          rw [nth_lt hx, nth_lt hy]
          simpa using this)]
        simp [lexC, cmpI]
theorem lex_hit {xs ys : List Int} {k : Nat} (h1 : k < xs.length) (h2 : k < ys.length) (h : ∀ p, p < k → nth xs p = nth ys p) (hc : cmpI (nth xs k) (nth ys k) ≠ 0) : lexC xs ys = cmpI (nth xs k) (nth ys k) := by
  rw [lex_at xs ys k (by omega) (by omega) h, List.drop_eq_getElem_cons h1, List.drop_eq_getElem_cons h2, lexC, ← nth_lt h1, ← nth_lt h2, if_neg hc]
theorem lex_over {xs ys : List Int} {k : Nat} (h1 : k < xs.length) (h2 : k = ys.length) (h : ∀ p, p < k → nth xs p = nth ys p) : lexC xs ys = 1 := by
  have e : ys.drop k = [] := List.drop_eq_nil_of_le (by omega)
  rw [lex_at xs ys k (by omega) (by omega) h, List.drop_eq_getElem_cons h1, e]; rfl
theorem lex_end {xs ys : List Int} (h2 : xs.length ≤ ys.length) (h : ∀ p, p < xs.length → nth xs p = nth ys p) : lexC xs ys = if xs.length < ys.length then -1 else 0 := by
  rw [lex_at xs ys xs.length (Nat.le_refl _) h2 h, List.drop_eq_nil_of_le (Nat.le_refl _)]
  by_cases h3 : xs.length < ys.length
  · rw [if_pos h3, List.drop_eq_getElem_cons h3]; rfl
  · rw [if_neg h3, List.drop_eq_nil_of_le (by omega)]; rfl
theorem cmpI_zero {x y : Int} (h : cmpI x y = 0) : x = y := by
  unfold cmpI at h
  by_cases h1 : x < y
  · simp [h1] at h
  · by_cases h2 : y < x
    · simp [h1, h2] at h
    · omega
end Go.Tok
namespace Go.Proofs.YtagdccgbcmnehaaGreat
open Go.RowKit Go.Tok
set_option linter.unusedVariables false
set_option linter.unusedSimpArgs false
theorem cmpCompare_calls (x y : Int) (w : World) : Calls Tryz.prog 167 #[.int .i64 x, .int .i64 y] w fun e w' => e = .returned (.int .i64 (cmpI x y)) ∧ w = w' := by
  by_cases h1 : x < y
  · have HC := Lib.hid (show cmpI x y = -1 by simp [cmpI, h1])
    go_enter Tryz.func167, Tryz.ntmps167
    go_wp2_with (go_at_call 173; refine (isNaN_calls _ _).mono ?_; rintro e w' ⟨rfl, rfl⟩)
    go_ret
    exact ⟨ret_i64 HC.out.symm, rfl⟩
  · by_cases h2 : y < x
    · have HC := Lib.hid (show cmpI x y = 1 by simp [cmpI, h1, h2])
      go_enter Tryz.func167, Tryz.ntmps167
      go_wp2_with (go_at_call 173; refine (isNaN_calls _ _).mono ?_; rintro e w' ⟨rfl, rfl⟩)
      go_ret
      exact ⟨ret_i64 HC.out.symm, rfl⟩
    · have HC := Lib.hid (show cmpI x y = 0 by simp [cmpI, h1, h2])
      go_enter Tryz.func167, Tryz.ntmps167
      go_wp2_with (go_at_call 173; refine (isNaN_calls _ _).mono ?_; rintro e w' ⟨rfl, rfl⟩)
      go_ret
      exact ⟨ret_i64 HC.out.symm, rfl⟩
set_option maxHeartbeats 1000000 in
theorem SCompare_calls (v u : Value) (xs ys : List Int) (w : World) (hv : Ints w v xs) (hu : Ints w u ys) :
    Calls Tryz.prog 118 #[v, u] w fun e w' => e = .returned (.int .i64 (lexC xs ys)) ∧ w = w' := by
  obtain ⟨a, cap, rfl, hlc, hcap⟩ := hv.len
  obtain ⟨a', cap', rfl, hlc', hcap'⟩ := hu.len
  go_enter Tryz.func118, Tryz.ntmps118
  go_wp2_with fail
  go_loopw [11] (fun i wr => ∃ k : Nat, k ≤ xs.length ∧ k ≤ ys.length ∧ i = .int .i64 k ∧ (∀ p, p < k → nth xs p = nth ys p) ∧ w = wr) (fun i _ => xs.length - (intOf i).toNat)
  case atStart => exact ⟨0, Nat.zero_le _, Nat.zero_le _, rfl, fun p hp => by omega, rfl⟩
  case round =>
    rename World => wr
    obtain ⟨k, hk, hky, rfl, hall, rfl⟩ := hrel
    have HALL := Lib.hid hall
    clear hall
    by_cases hlt : k < xs.length
    · obtain ⟨b, o, rfl, c0⟩ := hv.cell hlt
      have hkI : (k : Int) < (xs.length : Int) := by omega
      have hk0 : (0 : Int) ≤ (k : Int) := by omega
      by_cases hy : k < ys.length
      · obtain ⟨b', o', rfl, c1⟩ := hu.cell hy
        have hyI : (k : Int) < (ys.length : Int) := by omega
        rcases hc : cmpI (nth xs k) (nth ys k) == 0 with _ | _
        · have hne : cmpI (nth xs k) (nth ys k) ≠ 0 := by simpa using hc
          have hb1 : (cmpI (nth xs k) (nth ys k) != 0) = true := by simpa using hne
          have HC := Lib.hid (lex_hit hlt hy HALL.out hne)
          clear hc hne
          go_wp2_with (go_at_call 167; refine (cmpCompare_calls _ _ _).mono ?_; rintro e w' ⟨rfl, rfl⟩)
          go_ret
          exact ⟨ret_i64 HC.out.symm, rfl⟩
        · have hz : cmpI (nth xs k) (nth ys k) = 0 := by simpa using hc
          have hb1 : (cmpI (nth xs k) (nth ys k) != 0) = false := by simpa using hz
          have hs : ∀ p, p < k + 1 → nth xs p = nth ys p := fun p hp => by
            by_cases e : p = k
            · subst e; exact cmpI_zero hz
            · exact HALL.out p (by omega)
          have HS := Lib.hid hs
          clear hc hz hs
          go_wp2_with (go_at_call 167; refine (cmpCompare_calls _ _ _).mono ?_; rintro e w' ⟨rfl, rfl⟩)
          go_roundw
          case rel => exact ⟨k + 1, by omega, by omega, by go_num, HS.out, by trivial⟩
          case measure => simp [intOf]; omega
      · have hyI : ¬ (k : Int) < (ys.length : Int) := by omega
        have hyJ : (ys.length : Int) ≤ (k : Int) := by omega
        have HC := Lib.hid (lex_over hlt (show k = ys.length by omega) HALL.out)
        go_wp2_with fail
        go_ret
        exact ⟨ret_i64 HC.out.symm, rfl⟩
    · obtain rfl : k = xs.length := by omega
      have HC := Lib.hid (lex_end hky HALL.out)
      by_cases h3 : xs.length < ys.length
      · have h3I : (xs.length : Int) < (ys.length : Int) := by omega
        have HC2 := Lib.hid (HC.out.trans (if_pos h3))
        go_wp2_with fail
        go_ret
        exact ⟨ret_i64 HC2.out.symm, rfl⟩
      · have h3I : ¬ (xs.length : Int) < (ys.length : Int) := by omega
        have HC2 := Lib.hid (HC.out.trans (if_neg h3))
        go_wp2_with fail
        go_ret
        exact ⟨ret_i64 HC2.out.symm, rfl⟩
end Go.Proofs.YtagdccgbcmnehaaGreat

namespace Go.Tok
open Go.RowKit Go.Sort Go.Proofs
theorem swo_lex {n : Nat} (f : Fin n → List Int) : SWO (ltOf fun i j => lexC (f i) (f j)) where
  irrefl x := by
    show decide (lexC (f x) (f x) < 0) = false
    rw [lex_self]; decide
  trans x y z h1 h2 := by
    have h1' : lexC (f x) (f y) < 0 := by simpa [ltOf] using h1
    have h2' : lexC (f y) (f z) < 0 := by simpa [ltOf] using h2
    have := lex_trans _ _ _ h1' h2'
    simpa [ltOf] using this
  ntrans x y z h1 h2 := by
    have h1' : ¬ lexC (f x) (f y) < 0 := by simpa [ltOf] using h1
    have h2' : ¬ lexC (f y) (f z) < 0 := by simpa [ltOf] using h2
    have := lex_ge_trans _ _ _ h1' h2'
    simpa [ltOf] using this
theorem heap_put {α : Type} [Inhabited α] {enc : α → Value} {w : World} {g n : Nat} {os : Array Obj} {cur : Array Value} {e : TypeId} {fr : Nat × Nat} (d : Array α) (hb : w.heap[g]? = some (.cells cur e fr)) :
    (sortWorld enc w g 0 n d os).heap[g]? = some (.cells (putCells enc 0 d cur) e fr) := by
  have hg : g < w.heap.size := (Array.getElem?_eq_some_iff.1 hb).1
  unfold sortWorld
  rw [heap_grow_old _ _ (by simpa using hg)]
  simp [putRow, mapBlock, Sort.ahead, Array.getElem?_modify, hb, onCells]
theorem take_put {α : Type} [Inhabited α] {enc : α → Value} (cur : Array Value) (d : Array α) (h : d.size ≤ cur.size) : (putCells enc 0 d cur).toList.take d.size = d.toList.map enc := by
  apply List.ext_getElem?
  intro j
  by_cases hj : j < d.size
  · rw [List.getElem?_take_of_lt hj, Array.getElem?_toList]
    simp [putCells, hj, show j < cur.size by omega]
  · rw [List.getElem?_take_eq_none (by omega), List.getElem?_eq_none (by simp; omega)]
theorem cellsOf_one {α : Type} : ∀ (rows : List (α × List Value)) (f : α × List Value → Value), (∀ r ∈ rows, r.2 = [f r]) → cellsOf rows = rows.map f := by
  intro rows f
  induction rows with
  | nil => intro _; rfl
  | cons r rest ih =>
    intro h
    have e : cellsOf (r :: rest) = r.2 ++ cellsOf rest := by simp [cellsOf]
    rw [e, ih (fun r' hr' => h r' (by simp [hr'])), h r (by simp)]; rfl
end Go.Tok
namespace Go.Proofs.YtagdccgbcmnehaaGreat
open Go.RowKit Go.Tok Go.Sort
set_option linter.unusedVariables false
theorem sortWorld_grown {α : Type} [Inhabited α] {enc : α → Value} {w : World} {g m : Nat} {d : Array α} {os : Array Obj} : w.grownBy (sortWorld enc w g 0 m d os) (some g) := by
  unfold sortWorld
  refine ⟨rfl, rfl, rfl, by simp, fun k hk hne => ?_⟩
  rw [heap_grow_old _ _ (by simpa using hk)]
  have : g ≠ k := fun e => hne (by rw [e])
  simp [putRow, mapBlock, Sort.ahead, Array.getElem?_modify, this]
end Go.Proofs.YtagdccgbcmnehaaGreat

namespace Go.Tok
open Go.RowKit
open Go.MapKept (Stamped)
open Go.ChangeMaps (setBlock)

set_option linter.unusedVariables false

/-- block r is an iterator over the map in block b, whose entries are kvs; todo are those still to come -/
def Rng (P : Program) (k : TypeId) (w : World) (b r : Nat) (kvs todo : List (Value × Value)) : Prop :=
  ∃ es clock since seen c0, w.heap[b]? = some (.map es clock) ∧ Stamped es clock ∧ es.toList.map (fun e => (e.key, e.val)) = kvs ∧ (∀ x ∈ kvs, ∃ l, keyOf P k x.1 = some l) ∧
    w.heap[r]? = some (.mapIter (some b) since seen c0) ∧ (∀ x ∈ es.toList, x.born < since) ∧ since ≤ c0 ∧ since ≤ clock ∧ (leftOf es seen).toList.map (fun e => (e.key, e.val)) = todo

section
variable {P : Program} {k t e : TypeId} {w : World} {b r : Nat} {kvs todo : List (Value × Value)}
theorem Rng.ne (h : Rng P k w b r kvs todo) : r ≠ b := by
  obtain ⟨es, clock, since, seen, c0, h1, _, _, _, h5, _⟩ := h
  intro e
  rw [e, h1] at h5
  cases h5
theorem Rng.lt (h : Rng P k w b r kvs todo) : r < w.heap.size := by
  obtain ⟨es, clock, since, seen, c0, h1, _, _, _, h5, _⟩ := h
  exact (Array.getElem?_eq_some_iff.1 h5).1
theorem Rng.ltb (h : Rng P k w b r kvs todo) : b < w.heap.size := by
  obtain ⟨es, clock, since, seen, c0, h1, _, _, _, h5, _⟩ := h
  exact (Array.getElem?_eq_some_iff.1 h1).1
theorem Rng.grown {w' : World} {row : Option Nat} (h : Rng P k w b r kvs todo) (g : w.grownBy w' row) (hb : some b ≠ row) (hr : some r ≠ row) : Rng P k w' b r kvs todo := by
  have l1 := h.lt
  have l2 := h.ltb
  obtain ⟨es, clock, since, seen, c0, h1, h2, h3, h4, h5, h6⟩ := h
  exact ⟨es, clock, since, seen, c0, (g.block b l2 hb).trans h1, h2, h3, h4, (g.block r l1 hr).trans h5, h6⟩
theorem Rng.gr {w' : World} (h : Rng P k w b r kvs todo) (g : Gr w w') : Rng P k w' b r kvs todo := by
  have l1 := h.lt
  have l2 := h.ltb
  obtain ⟨es, clock, since, seen, c0, h1, h2, h3, h4, h5, h6⟩ := h
  exact ⟨es, clock, since, seen, c0, (g.below.block b l2).trans h1, h2, h3, h4, (g.below.block r l1).trans h5, h6⟩
theorem Rng.left_eq (h : Rng P k w b r kvs todo) : w.rangeLeft b r = todo.length := by
  obtain ⟨es, clock, since, seen, c0, hb, _, _, _, hr, _, _, _, hc⟩ := h
  simp only [World.rangeLeft, hb, hr]
  rw [← hc, List.length_map, Array.length_toList]
/-- the loop's start -/
theorem Rng.start (ht : P.underlying t = some (.map k e)) (h : MAt P k w b kvs) :
    ∃ o, (Instr.range t (.map (some b))).run P w = .ok (.pointer (some ⟨w.heap.size, 0, none⟩)) (w.alloc o) ∧ Rng P k (w.alloc o) b w.heap.size kvs kvs := by
  have hlt := h.lt
  unfold MAt at h
  obtain ⟨es, clock, hb, hs, he, hks⟩ := h
  refine ⟨.mapIter (some b) clock #[] clock, run_range_map w t k e b es clock ht hb, es, clock, clock, #[], clock, by rw [heap_alloc_old w _ hlt, hb], hs, he, hks, heap_alloc_new w _, hs.1, Nat.le_refl _, Nat.le_refl _, ?_⟩
  have : leftOf es #[] = es := by
    unfold leftOf
    exact Array.filter_eq_self.2 (fun x _ => by simp)
  rw [this]; exact he
theorem filter_one {α : Type} {f : α → Nat} : ∀ {l : List α}, (l.map f).Nodup → ∀ {x : α}, x ∈ l → ∃ l1 l2, l = l1 ++ x :: l2 ∧ l.filter (fun y => !(f y == f x)) = l1 ++ l2
  | y :: l, hn, x, hx => by
    rw [List.map_cons, List.nodup_cons] at hn
    rcases List.mem_cons.1 hx with rfl | h
    · refine ⟨[], l, rfl, ?_⟩
      rw [List.filter_cons]
      simp only [beq_self_eq_true, Bool.not_true, Bool.false_eq_true, if_false, List.nil_append]
      refine List.filter_eq_self.2 fun z hz => ?_
      have : f z ≠ f x := fun e => hn.1 (by rw [← e]; exact List.mem_map.2 ⟨z, hz, rfl⟩)
      simp [this]
    · obtain ⟨l1, l2, h1, h2⟩ := filter_one hn.2 h
      refine ⟨y :: l1, l2, by rw [h1]; rfl, ?_⟩
      have : f y ≠ f x := fun e => hn.1 (by rw [e]; exact List.mem_map.2 ⟨x, h, rfl⟩)
      rw [List.filter_cons, h2]
      simp [this]
/-- a step: nothing is left; or one entry that is left comes out, whichever -/
theorem Rng.next (h : Rng P k w b r kvs todo) (ty : TypeId) :
    (todo = [] ∧ (Instr.next (.pointer (some ⟨r, 0, none⟩)) false ty).run P w = .ok (.tuple #[.bool false]) w) ∨
    ∃ l1 x l2 w', todo = l1 ++ x :: l2 ∧ (Instr.next (.pointer (some ⟨r, 0, none⟩)) false ty).run P w = .ok (.tuple #[.bool true, x.1, x.2]) w' ∧ w.grownBy w' (some r) ∧ Rng P k w' b r kvs (l1 ++ l2) ∧ (Instr.entry (.pointer (some ⟨r, 0, none⟩))).run P w' = .ok (.tuple #[x.1, x.2]) w' := by
  have hne := h.ne
  obtain ⟨es, clock, since, seen, c0, hb, hs, he, hks, hr, hold, hsc, hcl, hleft⟩ := h
  rcases run_next_at (P := P) w ty r b since c0 seen es clock hr hb hold hsc with ⟨h1, h2⟩ | ⟨e0, h1, w1, h2, h3⟩
  · refine .inl ⟨?_, h2⟩
    rw [← hleft, Array.eq_empty_of_size_eq_zero h1]; rfl
  · right
    have hm := mem_left h1
    have hlt : r < w.heap.size := (Array.getElem?_eq_some_iff.1 hr).1
    have hw1 : w1.heap = w.heap := by rcases h2 with rfl | rfl <;> rfl
    have hL : (leftOf es (seen.push e0.born)).toList = (leftOf es seen).toList.filter (fun y => !(y.born == e0.born)) := by
      unfold leftOf
      rw [Array.toList_filter, Array.toList_filter, List.filter_filter]
      congr 1
      funext y
      rw [contains_push]
      cases seen.contains y.born <;> cases (y.born == e0.born) <;> rfl
    have hnd : ((leftOf es seen).toList.map (·.born)).Nodup := by
      unfold leftOf
      rw [Array.toList_filter]
      exact (List.Sublist.map _ List.filter_sublist).nodup hs.2.1
    obtain ⟨l1, l2, e1, e2⟩ := filter_one (f := fun y : MapEntry => y.born) hnd h1
    have hb' : (setBlock w1 r (.mapIter (some b) since (seen.push e0.born) clock)).heap[b]? = some (.map es clock) := by
      simp [setBlock, hw1, hne, hb]
    have hr' : (setBlock w1 r (.mapIter (some b) since (seen.push e0.born) clock)).heap[r]? = some (.mapIter (some b) since (seen.push e0.born) clock) := by
      simp [setBlock, hw1, hlt]
    refine ⟨l1.map (fun e => (e.key, e.val)), (e0.key, e0.val), l2.map (fun e => (e.key, e.val)), _, ?_, h3, ?_, ⟨es, clock, since, seen.push e0.born, clock, hb', hs, he, hks, hr', hold, hcl, hcl, ?_⟩, ?_⟩
    · rw [← hleft, e1]; simp
    · refine ⟨by rcases h2 with rfl | rfl <;> rfl, by rcases h2 with rfl | rfl <;> rfl, by rcases h2 with rfl | rfl <;> rfl, by simp [setBlock, hw1], fun c hc hcr => ?_⟩
      have : c ≠ r := fun e => hcr (by rw [e])
      simp [setBlock, hw1, Ne.symm this]
    · rw [hL, e2]; simp
    · exact run_entry_at _ r b since seen es clock e0 hr' hb' hm.1 hs.2.1
end
attribute [irreducible] Rng
end Go.Tok

namespace Go.Tok
open Go.RowKit
set_option linter.unusedVariables false
/-- block b is a map whose keys are the elements l, each once, with nothing at them -/
def SetAt {α : Type} (P : Program) (k : TypeId) (enc : α → Value) (w : World) (b : Nat) (l : List α) : Prop := MAt P k w b (l.map fun x => (enc x, .agg #[]))
section
variable {α : Type} {P : Program} {k : TypeId} {enc : α → Value} {w w' : World} {b : Nat} {l : List α}
theorem SetAt.new (w : World) : SetAt P k enc (w.alloc (.map #[] 0)) w.heap.size ([] : List α) := by
  have := MAt.new (P := P) (k := k) w
  exact this
theorem SetAt.lt (h : SetAt P k enc w b l) : b < w.heap.size := MAt.lt h
theorem SetAt.gr (h : SetAt P k enc w b l) (g : Gr w w') : SetAt P k enc w' b l := MAt.gr h g
theorem SetAt.grown {row : Option Nat} (h : SetAt P k enc w b l) (g : w.grownBy w' row) (hne : some b ≠ row) : SetAt P k enc w' b l := MAt.grown h g hne
theorem putAt_same : ∀ (kvs : List (Value × Value)) (j : Nat) (v : Value), (∀ x ∈ kvs, x.2 = v) → putAt kvs j v = kvs := by
  intro kvs j v h
  unfold putAt
  apply List.ext_getElem?
  intro i
  rw [List.getElem?_modify]
  cases e : kvs[i]? with
  | none => rfl
  | some x =>
    have := h x (List.mem_of_getElem? e)
    by_cases hji : j = i
    · subst hji
      simp [← this]
    · simp [hji]
/-- 'm[x] = struct{}{}' -/
theorem SetAt.add [DecidableEq α] {t e : TypeId} (K : Go.Maps.Keyed P k) (ht : P.underlying t = some (.map k e)) (inj : ∀ x y, enc x = enc y → x = y) (h : SetAt P k enc w b l) (x : α) {kl : Lit} (hk : keyOf P k (enc x) = some kl) :
    ∃ w', (Instr.mapUpdate t (.map (some b)) (enc x) (.agg #[])).run P w = .ok () w' ∧ OnlyAt b w w' ∧ SetAt P k enc w' b (ins l x) := by
  by_cases hx : x ∈ l
  · obtain ⟨w', j, h1, h2, h3, h4⟩ := MAt.store_old K ht h (.agg #[]) hk (List.mem_map.2 ⟨x, hx, rfl⟩)
    refine ⟨w', h1, h2, ?_⟩
    rw [ins_yes hx]
    rw [putAt_same _ _ _ (fun y hy => by obtain ⟨z, _, rfl⟩ := List.mem_map.1 hy; rfl)] at h4
    exact h4
  · obtain ⟨w', h1, h2, h3⟩ := MAt.store_new K ht h (.agg #[]) hk (fun y hy e => by
      obtain ⟨z, hz, rfl⟩ := List.mem_map.1 hy
      exact hx (inj _ _ e ▸ hz))
    refine ⟨w', h1, h2, ?_⟩
    rw [ins_no hx]
    unfold SetAt
    rw [List.map_append]; exact h3
end
attribute [irreducible] SetAt
end Go.Tok
namespace Go.Proofs.YtagdccgbcmnehaaGreat
open Go.RowKit Go.Tok
open Go.WideMaps (KeyLaw)
open Go.WideElems
set_option linter.unusedVariables false

theorem intKeyed : Go.Maps.Keyed Tryz.prog 3 := Go.Maps.int_keyed Tryz.underlying3
theorem int_key {x : Int} (h : I64 x) : ∃ l, keyOf Tryz.prog 3 (.int .i64 x) = some l := by
  have hw : (Lit.int .i64 x).wf = true := by
    unfold I64 at h
    simp [Lit.wf, IntKind.min, IntKind.max, IntKind.bits, IntKind.signed]
    omega
  exact ⟨.int .i64 x, by simp [keyOf, Tryz.underlying3, mapKey, hw]⟩
set_option maxRecDepth 100000 in
theorem pairLaidOut : laidOutB Tryz.prog = true := by kernel_rfl
set_option maxRecDepth 100000 in
theorem pairRow : 127 < Tryz.prog.types.size := of_decide_eq_true (by kernel_rfl)
set_option maxRecDepth 100000 in
theorem pairWide : (match Tryz.prog.underlying 127 with | some (.array _ _) | some (.struct _) => true | _ => false) = true := by kernel_rfl
set_option maxRecDepth 100000 in
theorem pairKeyed : Go.Maps.Keyed Tryz.prog 127 := Go.Maps.Keyed.of_law (deep_law_laid pairLaidOut (m := 2) (by omega) pairRow (by kernel_rfl) pairWide)
theorem key_arr2 {P : Program} {k e : TypeId} (hk : P.underlying k = some (.array 2 e)) (he : P.underlying e = some (.int .i64)) (ce : P.cellsOf e = 1) (ck : P.cellsOf k = 2) (hkt : P.keyType k = true) (m : Nat) (hsz : P.types.size = m + 1) (x y : Int) (hx : (Lit.int .i64 x).wf = true) (hy : (Lit.int .i64 y).wf = true) :
    ∃ l, keyOf P k (.agg #[.int .i64 x, .int .i64 y]) = some l := by
  have hf : (Value.agg #[.int .i64 x, .int .i64 y]).formed P k = true := by simp [Value.formed, hk, ck]
  have hl : P.keyLits (P.types.size + 1) k (Value.agg #[.int .i64 x, .int .i64 y]).cells.toList = some [.int .i64 x, .int .i64 y] := by
    rw [hsz]
    unfold Program.keyLits
    rw [hk]
    simp only [Value.cells, List.length_cons, List.length_nil, ck, ce]
    simp [Program.keyLits, he, hx, hy, List.range_succ]
  have : keyOf P k (Value.agg #[.int .i64 x, .int .i64 y]) = some (.string (keyBytes [.int .i64 x, .int .i64 y])) := by
    unfold keyOf
    rw [hk]
    simp [hkt, hf, hl]
  exact ⟨_, this⟩
def pairV (p : Int × Int) : Value := .agg #[.int .i64 p.1, .int .i64 p.2]
theorem pairV_inj (x y : Int × Int) (h : pairV x = pairV y) : x = y := by
  simp only [pairV, Value.agg.injEq, Array.mk.injEq, List.cons.injEq, Value.int.injEq, true_and, and_true] at h
  exact Prod.ext h.1 h.2
theorem intV_inj (x y : Int) (h : Value.int .i64 x = Value.int .i64 y) : x = y := by simpa using h
theorem wf_i64 {x : Int} (h : I64 x) : (Lit.int .i64 x).wf = true := by
  unfold I64 at h
  simp [Lit.wf, IntKind.min, IntKind.max, IntKind.bits, IntKind.signed]
  omega
set_option maxRecDepth 100000 in
theorem pair_key (p : Int × Int) (h1 : I64 p.1) (h2 : I64 p.2) : ∃ l, keyOf Tryz.prog 127 (pairV p) = some l :=
  key_arr2 Tryz.underlying127 Tryz.underlying3 (by kernel_rfl) (by kernel_rfl) (by kernel_rfl) (Tryz.prog.types.size - 1) (by kernel_rfl) p.1 p.2 (wf_i64 h1) (wf_i64 h2)
abbrev ISet (w : World) (b : Nat) (l : List Int) : Prop := SetAt Tryz.prog 3 (Value.int .i64) w b l
abbrev PSet (w : World) (b : Nat) (l : List (Int × Int)) : Prop := SetAt Tryz.prog 127 pairV w b l

set_option maxHeartbeats 1000000 in
theorem addI_calls (b : Nat) (l : List Int) (x : Int) (w : World) (h : ISet w b l) (hx : I64 x) :
    Calls Tryz.prog 56 #[.map (some b), .int .i64 x] w fun e w' => e = .returned (.tuple #[]) ∧ w.grownBy w' (some b) ∧ ISet w' b (ins l x) := by
  obtain ⟨kl, hk⟩ := int_key hx
  obtain ⟨w2, hrun, h1, h2⟩ := SetAt.add (t := 122) intKeyed Tryz.underlying122 intV_inj h x hk
  clear hk h
  go_enter Tryz.func56, Tryz.ntmps56
  go_wp2_with fail
  refine bodyPost_end (results_none rfl _ _ _) rfl ?_
  exact ⟨rfl, h1.grown, h2⟩
set_option maxRecDepth 100000 in
set_option maxHeartbeats 1000000 in
theorem addP_calls (b : Nat) (l : List (Int × Int)) (p : Int × Int) (w : World) (h : PSet w b l) (h1 : I64 p.1) (h2 : I64 p.2) :
    Calls Tryz.prog 57 #[.map (some b), .agg #[.int .i64 p.1, .int .i64 p.2]] w fun e w' => e = .returned (.tuple #[]) ∧ w.grownBy w' (some b) ∧ PSet w' b (ins l p) := by
  obtain ⟨kl, hk⟩ := pair_key p h1 h2
  have ga : Gr w (w.alloc (.cells #[.int .i64 p.1, .int .i64 p.2] 127)) := (Gr.refl _).alloc _
  have hlt := h.lt
  obtain ⟨w2, hrun, h1, h2⟩ := SetAt.add (t := 124) pairKeyed Tryz.underlying124 pairV_inj (h.gr ga) p hk
  unfold pairV at hrun
  have hg : w.grownBy w2 (some b) := by
    refine ⟨h1.1, h1.2.1, h1.2.2.1, by rw [h1.2.2.2.1]; simp, fun k hk hne => ?_⟩
    rw [h1.2.2.2.2 k (fun e => hne (by rw [e]))]
    exact ga.below.block k hk
  clear hk h ga
  go_enter Tryz.func57, Tryz.ntmps57
  go_wp2_with fail
  refine bodyPost_end (results_none rfl _ _ _) rfl ?_
  exact ⟨rfl, hg, h2⟩

theorem wrong1_calls (x : Int) (hx : I64 x) (w : World) : Calls Tryz.prog 38 #[.int .i64 x] w fun e w' => e = .returned (.bool (decide (x < 1) || decide (26 < x))) ∧ Gr w w' := by
  go_enter Tryz.func38, Tryz.ntmps38
  by_cases h1 : x < 1
  · have e1 : decide (x < 1) = true := by simpa using h1
    go_wp2
    go_ret
    exact ⟨ret_bool (by rw [e1]; rfl), Gr.refl _⟩
  · have e1 : decide (x < 1) = false := by simpa using h1
    go_wp2
    go_ret
    exact ⟨ret_bool (by simp), Gr.refl _⟩
def NoBad (log : List (List Int)) (k : Nat) : Prop := ∀ i, i < k → traceBad (ix log i) = false
theorem NoBad.zero (log : List (List Int)) : NoBad log 0 := fun i hi => by omega
theorem NoBad.succ {log : List (List Int)} {k : Nat} (h : NoBad log k) (hk : traceBad (ix log k) = false) : NoBad log (k + 1) := fun i hi => by
  rcases Nat.lt_or_ge i k with h1 | h1
  · exact h i h1
  · obtain rfl : i = k := by omega
    exact hk
theorem NoBad.all {log : List (List Int)} (h : NoBad log log.length) : log.any traceBad = false := by
  rw [List.any_eq_false]
  intro t ht
  obtain ⟨i, hi, rfl⟩ := List.getElem_of_mem ht
  have := h i hi
  rw [ix_lt hi] at this
  simp [this]
theorem bad_any {log : List (List Int)} {k : Nat} (hk : k < log.length) (h : traceBad (ix log k) = true) : log.any traceBad = true := List.any_eq_true.2 ⟨_, ix_mem hk, h⟩
attribute [irreducible] NoBad
set_option maxHeartbeats 2000000 in
theorem TWrong_calls (v : Value) (log : List (List Int)) (w : World) (hv : Rd rowK w v log) :
    Calls Tryz.prog 12 #[v] w fun e w' => e = .returned (.int .i64 (wrongT log)) ∧ Gr w w' := by
  obtain ⟨a, cap, rfl, hlc, hcap⟩ := hv.len
  by_cases h60 : 60 < log.length
  · have HC := Lib.hid (show wrongT log = 4 by unfold wrongT; rw [if_pos h60])
    have e1 : decide ((60 : Int) < (log.length : Int)) = true := by simp; omega
    have e2 : (60 : Int) < (log.length : Int) := by omega
    go_enter Tryz.func12, Tryz.ntmps12
    go_wp2
    go_ret
    exact ⟨ret_i64 HC.out.symm, Gr.refl _⟩
  · have H60 := Lib.hid h60
    have e1 : decide ((60 : Int) < (log.length : Int)) = false := by simp; omega
    have e2 : ¬ (60 : Int) < (log.length : Int) := by omega
    clear h60
    go_enter Tryz.func12, Tryz.ntmps12
    go_wp2_with fail
    go_loopw [10] (fun i wr => ∃ k : Nat, k ≤ log.length ∧ i = .int .i64 k ∧ NoBad log k ∧ Gr w wr) (fun i _ => log.length - (intOf i).toNat)
    case atStart => exact ⟨0, Nat.zero_le _, rfl, NoBad.zero _, Gr.refl _⟩
    case round =>
      rename_i wr _
      obtain ⟨k, hk, rfl, hall, hgr⟩ := hrel
      by_cases hlt : k < log.length
      · obtain ⟨b, o, u, rfl, c0, hI⟩ := (hv.gr hgr).row hlt
        obtain ⟨ua, uc, rfl, hul, huc⟩ := hI.len
        by_cases hl : 60 < (ix log k).length
        · have HC := Lib.hid (show wrongT log = 2 by unfold wrongT; rw [if_neg H60.out, if_pos (bad_any hlt (by unfold traceBad; simp [hl]))])
          have e3 : (60 : Int) < ((ix log k).length : Int) := by omega
          have e4 : decide ((60 : Int) < ((ix log k).length : Int)) = true := by simp; omega
          go_wp2
          go_ret
          exact ⟨ret_i64 HC.out.symm, hgr⟩
        · have e3 : ¬ (60 : Int) < ((ix log k).length : Int) := by omega
          have e4 : decide ((60 : Int) < ((ix log k).length : Int)) = false := by simp; omega
          have hans : AnswersI Tryz.prog 38 #[] (ix log k) (fun x => decide (x < 1) || decide (26 < x)) wr := fun W x _ _ hx => wrong1_calls x hx W
          cases hb : (ix log k).any (fun x => decide (x < 1) || decide (26 < x))
          · have HN := Lib.hid (hall.succ (show traceBad (ix log k) = false by unfold traceBad; rw [hb]; simp [hl]))
            clear hall hl
            go_wp2_with fail
            refine (ContainsFuncI_calls _ (ix log k) _ _ _ _ (Go.Proofs.enters_of Tryz.func38 (by kernel_rfl) rfl) hI hans).mono ?_
            rw [hb]; rintro _ w2 ⟨rfl, g2⟩
            go_wp2_with fail
            go_roundw
            case rel => exact ⟨k + 1, by omega, by go_num, HN.out, hgr.trans g2⟩
            case measure => simp [intOf]; omega
          · have HC := Lib.hid (show wrongT log = 2 by unfold wrongT; rw [if_neg H60.out, if_pos (bad_any hlt (by unfold traceBad; rw [hb]; simp))])
            clear hall hl
            go_wp2_with fail
            refine (ContainsFuncI_calls _ (ix log k) _ _ _ _ (Go.Proofs.enters_of Tryz.func38 (by kernel_rfl) rfl) hI hans).mono ?_
            rw [hb]; rintro _ w2 ⟨rfl, g2⟩
            go_wp2_with fail
            go_ret
            exact ⟨ret_i64 HC.out.symm, hgr.trans g2⟩
      · obtain rfl : k = log.length := by omega
        have HC := Lib.hid (show wrongT log = 0 by unfold wrongT; rw [if_neg H60.out, hall.all]; rfl)
        go_wp2
        go_ret
        exact ⟨ret_i64 HC.out.symm, hgr⟩

theorem number_calls (x y : Int) (hx : 0 ≤ x ∧ x ≤ 1000000) (hy : 0 ≤ y ∧ y ≤ 1000000) (w : World) : Calls Tryz.prog 59 #[.int .i64 x, .int .i64 y] w fun e w' => e = .returned (.int .i64 (x - y)) ∧ w = w' := by
  have hw := IntWalk.i64_in (x - y) (by omega)
  go_enter Tryz.func59, Tryz.ntmps59
  go_wp2
  go_ret
  exact ⟨rfl, rfl⟩
set_option maxHeartbeats 1000000 in
theorem pair_calls (a b : Int × Int) (ha : I64 a.1 ∧ I64 a.2) (hb : I64 b.1 ∧ I64 b.2) (w : World) :
    Calls Tryz.prog 61 #[.agg #[.int .i64 a.1, .int .i64 a.2], .agg #[.int .i64 b.1, .int .i64 b.2]] w fun e w' => e = .returned (.int .i64 (lexC [a.1, a.2] [b.1, b.2])) ∧ ∃ q, w' = ((w.alloc (.cells #[.int .i64 a.1, .int .i64 a.2] 127)).alloc (.cells #[.int .i64 b.1, .int .i64 b.2] 127)).drewN q := by
  have hlit : ∀ (u : World) (H : Nat) (p : Int × Int), I64 p.1 ∧ I64 p.2 → u.heap.size = H → Ints (u.alloc (.cells #[.int .i64 p.1, .int .i64 p.2] 127)) (.slice (some ⟨H, 0, none⟩) 2 2) [p.1, p.2] := fun u H p hp hH => by
    refine Ints.lit hH rfl rfl rfl ?_ (by simp)
    intro x hx
    simp at hx
    rcases hx with rfl | rfl
    · exact hp.1
    · exact hp.2
  have i1 := (hlit w _ a ha rfl).alloc (.cells #[.int .i64 b.1, .int .i64 b.2] 127)
  have i2 := hlit (w.alloc (.cells #[.int .i64 a.1, .int .i64 a.2] 127)) (w.heap.size + 1) b hb (by simp)
  go_enter Tryz.func61, Tryz.ntmps61
  go_wp2_with fail
  go_quiet ((go_at_call 118; exact Calls.quiet_of_same (same_quiet (SCompare_calls _ _ [a.1, a.2] [b.1, b.2] _ (i1.gr ((Gr.refl _).drewN _)) (i2.gr ((Gr.refl _).drewN _))))))
  go_wp2_with fail
  go_ret
  exact ⟨rfl, _, rfl⟩
end Go.Proofs.YtagdccgbcmnehaaGreat

namespace Go.Tok
open Go.RowKit Go.Sort
set_option linter.unusedVariables false
def pairCells (p : Int × Int) : List Value := [.int .i64 p.1, .int .i64 p.2]
def pairI (p : Int × Int) : Prop := I64 p.1 ∧ I64 p.2
def pairK : Kind (Int × Int) := flat 2 pairCells pairI (fun _ => rfl) (by intro x u hu; simp [pairCells] at hu; rcases hu with rfl | rfl <;> rfl)
abbrev NoS : Nat → Prop := fun _ => False
theorem cellsOf_pairs : ∀ (rows : List ((Int × Int) × List Value)), (∀ r ∈ rows, r.2 = pairCells r.1) → cellsOf rows = (rows.map (·.1)).flatMap pairCells := by
  intro rows
  induction rows with
  | nil => intro _; rfl
  | cons r rest ih =>
    intro h
    have e : cellsOf (r :: rest) = r.2 ++ cellsOf rest := by simp [cellsOf]
    rw [e, ih (fun r' hr' => h r' (by simp [hr'])), h r (by simp)]; rfl
/-- an own row of pairs, cell by cell -/
theorem own_pairs {e base : Nat} {S : Nat → Prop} {w : World} {v : Value} {xs : List (Int × Int)} : OwnR pairK e base S w v xs ↔ w.ownsRow base e 2 v xs.length (xs.flatMap pairCells) ∧ ∀ x ∈ xs, pairI x := by
  unfold OwnR
  constructor
  · rintro ⟨rows, rfl, hr, hall⟩
    have h1 : ∀ r ∈ rows, r.2 = pairCells r.1 ∧ pairI r.1 := fun r hr => (hall r hr).now
    refine ⟨?_, fun x hx => ?_⟩
    · rw [List.length_map, ← cellsOf_pairs rows fun r hr => (h1 r hr).1]; exact hr
    · obtain ⟨r, hr, rfl⟩ := List.mem_map.1 hx
      exact (h1 r hr).2
  · rintro ⟨h1, h2⟩
    refine ⟨xs.map fun x => (x, pairCells x), by rw [List.map_map]; exact (List.map_id _).symm, ?_, fun r hr => ?_⟩
    · rw [List.length_map, cellsOf_pairs _ (fun r hr => by obtain ⟨x, _, rfl⟩ := List.mem_map.1 hr; rfl), List.map_map]
      have e : List.map ((fun x : (Int × Int) × List Value => x.1) ∘ fun x => (x, pairCells x)) xs = xs := List.map_id _
      rw [e]; exact h1
    · obtain ⟨x, hx, rfl⟩ := List.mem_map.1 hr
      exact On.true (p := pairCells x = pairCells x ∧ pairI x) ⟨rfl, h2 x hx⟩
theorem pairs_at : ∀ (xs : List (Int × Int)) (t : Nat), t < xs.length * 2 → (xs.flatMap pairCells)[t]? = some ((pairCells (ix xs (t / 2)))[t % 2]!) := by
  intro xs
  induction xs with
  | nil => intro t ht; simp at ht
  | cons x xs ih =>
    intro t ht
    rw [List.flatMap_cons]
    by_cases h : t < 2
    · have h1 : t / 2 = 0 := by omega
      rw [h1, ix_zero, List.getElem?_append_left (by simpa [pairCells] using h)]
      have : t = 0 ∨ t = 1 := by omega
      rcases this with rfl | rfl <;> simp [pairCells]
    · obtain ⟨q, rfl⟩ : ∃ q, t = q + 2 := ⟨t - 2, by omega⟩
      rw [List.getElem?_append_right (by simp [pairCells])]
      have e1 : q + 2 - (pairCells x).length = q := by simp [pairCells]
      have e2 : (q + 2) / 2 = q / 2 + 1 := by omega
      have e3 : (q + 2) % 2 = q % 2 := by omega
      rw [e1, e2, e3, ix_succ]
      exact ih q (by simp at ht; omega)
theorem put_pairs (cur : Array Value) (ts : List (Int × Int)) (h : ts.length * 2 ≤ cur.size) : (putCells id 0 (flatK pairCells 2 ts.toArray) cur).toList.take (ts.length * 2) = ts.flatMap pairCells := by
  have hl : (ts.flatMap pairCells).length = ts.length * 2 := by
    clear h
    induction ts with
    | nil => rfl
    | cons x xs ih => rw [List.flatMap_cons, List.length_append, ih, List.length_cons]; simp [pairCells]; omega
  apply List.ext_getElem?
  intro j
  by_cases hj : j < ts.length * 2
  · rw [List.getElem?_take_of_lt hj, Array.getElem?_toList, pairs_at ts j hj]
    have hd : j / 2 < ts.length := by omega
    have e := get_flatK pairCells 2 ts.toArray j (by simpa using hj)
    rw [getElem!_pos _ j (by simpa using hj)] at e
    simp [putCells, hj, show j < cur.size by omega, e, ix_lt hd, hd]
  · rw [List.getElem?_take_eq_none (by omega), List.getElem?_eq_none (by omega)]
theorem lex_pair (a b : Int × Int) : (¬ lexC [b.1, b.2] [a.1, a.2] < 0) ↔ leP a b := by
  unfold leP
  simp only [lexC, cmpI]
  by_cases h1 : b.1 < a.1
  · simp [h1]; omega
  · by_cases h2 : a.1 < b.1
    · simp [h1, h2]
    · have h3 : b.1 = a.1 := by omega
      by_cases h4 : b.2 < a.2
      · simp [h3, h4]
      · by_cases h5 : a.2 < b.2
        · simp [h3, h4, h5]; omega
        · simp [h3, h4, h5]; omega
end Go.Tok
namespace Go.Proofs.YtagdccgbcmnehaaGreat
open Go.RowKit Go.Tok Go.Sort
set_option linter.unusedVariables false
theorem pairTy : KTy Tryz.prog 58 127 pairK 16 (.agg #[.int .i64 0, .int .i64 0]) := ⟨Tryz.underlying58, by kernel_rfl, rfl, by decide⟩
theorem swo_num {n : Nat} (f : Fin n → Int) : SWO (ltOf fun i j => f i - f j) where
  irrefl x := by
    show decide (f x - f x < 0) = false
    simp
  trans x y z h1 h2 := by
    simp only [ltOf, decide_eq_true_eq] at *
    omega
  ntrans x y z h1 h2 := by
    simp only [ltOf, decide_eq_false_iff_not] at *
    omega
theorem asc_pairwise {α : Type} [Inhabited α] {R : α → α → Prop} {l : List α} (h : ∀ i j, i < j → j < l.length → R (ix l i) (ix l j)) : l.Pairwise R := by
  rw [List.pairwise_iff_getElem]
  intro i j hi hj hij
  have := h i j hij hj
  rwa [ix_lt hi, ix_lt hj] at this
theorem extract_all {α : Type} (q : Array α) {n : Nat} (hq : q.size = n) : q.extract 0 n = q := by
  apply Array.ext
  · simp [hq]
  · intro i h1 h2; simp
set_option maxHeartbeats 1000000 in
/-- slices.SortFunc(xs, number) -/
theorem SortFuncI_calls (g cap base : Nat) (xs : List Int) (w : World) (h : OwnI 3 base w (.slice (some ⟨g, 0, none⟩) xs.length cap) xs) (h0 : 0 < xs.length) (hl : xs.length ≤ 1000000) (hx : ∀ x ∈ xs, 0 ≤ x ∧ x ≤ 1000000) :
    Calls Tryz.prog 116 #[.slice (some ⟨g, 0, none⟩) xs.length cap, .func (.func 59) #[] #[]] w fun e w' => e = .returned (.tuple #[]) ∧ OwnI 3 base w' (.slice (some ⟨g, 0, none⟩) xs.length cap) (sortI xs) ∧ w.grownBy w' (some g) := by
  unfold OwnI at h
  obtain ⟨⟨e1, h1⟩, h2⟩ := h
  rcases h1 with ⟨hv, _⟩ | ⟨g', cap', cur, hv, hb, hh, hn, hc, hs, ht⟩
  · cases hv
  cases hv
  haveI : Inhabited (Fin xs.length) := ⟨⟨0, h0⟩⟩
  let enc : Fin xs.length → Value := fun i => .int .i64 xs[i]
  let d : Array (Fin xs.length) := Array.ofFn id
  have hd : d.size = xs.length := by simp [d]
  have hHolds : Holds enc w g 0 d := by
    intro j hj
    have hj' : j < xs.length := by omega
    refine ⟨?_, by simp [World.frozen?, hh]⟩
    have h1 : (cur.toList.take (xs.length * 1))[j]? = (xs.map (Value.int .i64))[j]? := congrArg (·[j]?) ht
    rw [List.getElem?_take_of_lt (by omega)] at h1
    simp only [World.cell?, hh, Nat.zero_add]
    simp only [Option.isSome_none, Bool.false_eq_true, if_false]
    rw [← Array.getElem?_toList, h1]
    have hdj : d[j]! = ⟨j, hj'⟩ := by simp [d, hj']
    rw [hdj]
    simp [enc, hj']
  have hcmp : CmpLays1 Tryz.prog 59 #[] enc (fun i j => xs[i] - xs[j]) g 0 d.size w := by
    intro m os dk hk x y
    change Calls Tryz.prog 59 #[enc x, enc y] _ _
    refine (number_calls _ _ (hx _ (List.getElem_mem x.2)) (hx _ (List.getElem_mem y.2)) _).mono ?_
    rintro _ w' ⟨rfl, rfl⟩
    exact ⟨rfl, 0, #[], by rw [grow_empty]; rfl⟩
  have hcon := Tryz.slices_SortFunc_f116 enc (fun i => rfl) (fun i j => xs[i] - xs[j]) (swo_num fun i => xs[i]) 59 #[] g 0 cap d w (Go.Proofs.enters_of Tryz.func59 (by kernel_rfl) rfl) hcmp hHolds (Array.getElem?_eq_some_iff.1 hh).1 (by omega)
  rw [hd] at hcon
  refine hcon.mono ?_
  rintro _ w' ⟨rfl, d', n, os, ⟨hp1, _, hp3⟩, hS, rfl⟩
  have hd' : d'.size = xs.length := by rw [hp1, hd]
  have hperm : d'.toList.Perm d.toList := by
    rw [extract_all d' hd', extract_all d hd] at hp3
    exact hp3
  have hdl : d.toList.map (fun i => xs[i]) = xs := by
    apply List.ext_getElem
    · simp [d]
    · intro i h1 h2; simp [d]
  have hrows : (d'.toList.map fun i => xs[i]).Perm xs := by
    have := hperm.map fun i => xs[i]
    rwa [hdl] at this
  have hix : ∀ j, j < xs.length → ix (d'.toList.map fun i => xs[i]) j = xs[d'[j]!] := fun j hj => by
    rw [ix_lt (by simp; omega)]
    simp [hd', hj]
  have hsrt : sortI xs = d'.toList.map fun i => xs[i] := sortI_is hrows (asc_pairwise fun i j hij hj => by
    have hj' : j < xs.length := by simpa [hd'] using hj
    rw [hix j hj', hix i (by omega)]
    have := hS i j (Nat.zero_le _) hij hj'
    simp only [ltOf, decide_eq_false_iff_not] at this
    omega)
  refine ⟨rfl, ?_, sortWorld_grown⟩
  rw [hsrt]
  unfold OwnI
  refine ⟨?_, fun x hx => h2 x (hrows.mem_iff.1 hx)⟩
  have hl' : (d'.toList.map fun i => xs[i]).length = xs.length := by simp [hd']
  rw [hl']
  refine ⟨by simp [hd'], .inr ⟨g, cap, _, rfl, hb, heap_put d' hh, hn, hc, by simp [putCells]; omega, ?_⟩⟩
  have tk := take_put (enc := enc) cur d' (by rw [hd', hs]; omega)
  rw [hd'] at tk
  rw [Nat.mul_one, tk, List.map_map]
  rfl
set_option maxHeartbeats 1000000 in
/-- slices.SortFunc(xs, pair) -/
theorem SortFuncP_calls (F0 : Nat) (eg : ∀ args w, (callFunc F0 args).run Tryz.prog w = .ok (.enter F0 args) w) (hF : ∀ (a b : Int × Int), pairI a → pairI b → ∀ w, Calls Tryz.prog F0 #[.agg #[.int .i64 a.1, .int .i64 a.2], .agg #[.int .i64 b.1, .int .i64 b.2]] w fun e w' => e = .returned (.int .i64 (lexC [a.1, a.2] [b.1, b.2])) ∧ ∃ q, w' = ((w.alloc (.cells #[.int .i64 a.1, .int .i64 a.2] 127)).alloc (.cells #[.int .i64 b.1, .int .i64 b.2] 127)).drewN q)
    (g cap base : Nat) (S : Nat → Prop) (xs : List (Int × Int)) (w : World) (h : OwnR pairK 127 base S w (.slice (some ⟨g, 0, none⟩) xs.length cap) xs) (h0 : 0 < xs.length) (hl : xs.length ≤ 1000000) :
    Calls Tryz.prog 117 #[.slice (some ⟨g, 0, none⟩) xs.length cap, .func (.func F0) #[] #[]] w fun e w' => e = .returned (.tuple #[]) ∧ OwnR pairK 127 base S w' (.slice (some ⟨g, 0, none⟩) xs.length cap) (sortP xs) ∧ w.grownBy w' (some g) := by
  rw [own_pairs] at h
  obtain ⟨⟨e1, h1⟩, h2⟩ := h
  rcases h1 with ⟨hv, _⟩ | ⟨g', cap', cur, hv, hb, hh, hn, hc, hs, ht⟩
  · cases hv
  cases hv
  haveI : Inhabited (Fin xs.length) := ⟨⟨0, h0⟩⟩
  let enc : Fin xs.length → List Value := fun i => pairCells xs[i]
  let d : Array (Fin xs.length) := Array.ofFn id
  have hd : d.size = xs.length := by simp [d]
  have hflat : ∀ (q : Array (Fin xs.length)), flatK enc 2 q = flatK pairCells 2 (q.toList.map fun i => xs[i]).toArray := by
    intro q
    refine ext_get! (by simp) fun t ht => ?_
    have ht' : t < q.size * 2 := by simpa using ht
    rw [get_flatK _ _ _ t ht', get_flatK _ _ _ t (by simpa using ht')]
    have hq : t / 2 < q.size := by omega
    simp [enc, hq]
  have hdl : d.toList.map (fun i => xs[i]) = xs := by
    apply List.ext_getElem
    · simp [d]
    · intro i h1 h2; simp [d]
  have hHolds : HoldsK enc 2 w g 0 d := by
    intro j hj
    have hj' : j < xs.length * 2 := by rw [size_flatK, hd] at hj; exact hj
    refine ⟨?_, by simp [World.frozen?, hh]⟩
    have h1 : (cur.toList.take (xs.length * 2))[j]? = (xs.flatMap pairCells)[j]? := congrArg (·[j]?) ht
    rw [List.getElem?_take_of_lt hj', pairs_at xs j hj'] at h1
    simp only [World.cell?, hh, Nat.zero_add]
    simp only [Option.isSome_none, Bool.false_eq_true, if_false]
    rw [← Array.getElem?_toList, h1, hflat, hdl, get_flatK _ _ _ j (by simpa using hj')]
    have hq : j / 2 < xs.length := by omega
    simp [ix_lt hq, hq]
  have hcmp : CmpLays Tryz.prog F0 #[] enc 2 (fun i j => lexC [xs[i].1, xs[i].2] [xs[j].1, xs[j].2]) g 0 d.size w := by
    intro m os dk hk x y
    refine (hF xs[x] xs[y] (h2 _ (List.getElem_mem x.2)) (h2 _ (List.getElem_mem y.2)) _).mono ?_
    rintro _ w' ⟨rfl, q, rfl⟩
    refine ⟨rfl, q, #[.cells #[.int .i64 xs[x].1, .int .i64 xs[x].2] 127, .cells #[.int .i64 xs[y].1, .int .i64 xs[y].2] 127], ?_⟩
    rw [alloc_eq_grow, alloc_eq_grow, grow_grow]
    rfl
  have hcon := Tryz.slices_SortFunc_pair 2 (by intro w; kernel_rfl) (by intro w; kernel_rfl) enc (fun _ => rfl) (fun x v hv => by simp [enc, pairCells] at hv; rcases hv with rfl | rfl <;> rfl) (fun i j => lexC [xs[i].1, xs[i].2] [xs[j].1, xs[j].2]) (swo_lex fun i => [xs[i].1, xs[i].2]) F0 #[] g 0 cap d w eg hcmp hHolds (Array.getElem?_eq_some_iff.1 hh).1 (by omega)
  rw [hd] at hcon
  refine hcon.mono ?_
  rintro _ w' ⟨rfl, d', n, os, ⟨hp1, _, hp3⟩, hS, rfl⟩
  have hd' : d'.size = xs.length := by rw [hp1, hd]
  have hperm : d'.toList.Perm d.toList := by
    rw [extract_all d' hd', extract_all d hd] at hp3
    exact hp3
  have hrows : (d'.toList.map fun i => xs[i]).Perm xs := by
    have := hperm.map fun i => xs[i]
    rwa [hdl] at this
  have hix : ∀ j, j < xs.length → ix (d'.toList.map fun i => xs[i]) j = xs[d'[j]!] := fun j hj => by
    rw [ix_lt (by simp; omega)]
    simp [hd', hj]
  have hsrt : sortP xs = d'.toList.map fun i => xs[i] := sortP_is hrows (asc_pairwise fun i j hij hj => by
    have hj' : j < xs.length := by simpa [hd'] using hj
    rw [hix j hj', hix i (by omega)]
    have := hS i j (Nat.zero_le _) hij hj'
    simp only [ltOf, decide_eq_false_iff_not] at this
    exact (lex_pair _ _).1 this)
  refine ⟨rfl, ?_, sortWorld_grown (enc := id) (d := flatK enc 2 d')⟩
  rw [hsrt, own_pairs]
  refine ⟨?_, fun x hx => h2 x (hrows.mem_iff.1 hx)⟩
  have hl' : (d'.toList.map fun i => xs[i]).length = xs.length := by simp [hd']
  rw [hl']
  refine ⟨?_, .inr ⟨g, cap, _, rfl, hb, heap_put (enc := id) (flatK enc 2 d') hh, hn, hc, by simp [putCells]; omega, ?_⟩⟩
  · have : ∀ l : List (Int × Int), (l.flatMap pairCells).length = l.length * 2 := by
      intro l
      induction l with
      | nil => rfl
      | cons x xs ih => rw [List.flatMap_cons, List.length_append, ih, List.length_cons]; simp [pairCells]; omega
    rw [this, hl']
  · rw [hflat]
    have tk := put_pairs cur (d'.toList.map fun i => xs[i]) (by rw [hl', hs]; omega)
    rw [hl'] at tk
    exact tk
end Go.Proofs.YtagdccgbcmnehaaGreat

namespace Go.Tok
open Go.RowKit
set_option linter.unusedVariables false
theorem lit_cellsH {w : World} {H : Nat} {cs : Array Value} {t : TypeId} (hH : w.heap.size = H) : ∀ (j : Nat) (u : Value), cs.toList[j]? = some u → (w.alloc (.cells cs t)).cell? ((⟨H, 0, none⟩ : Addr).add j) = some u := by
  subst hH
  intro j u hj
  rw [add_none, Nat.zero_add]
  exact box_cell (Gr.refl _) (by rw [← Array.getElem?_toList]; exact hj)
end Go.Tok

