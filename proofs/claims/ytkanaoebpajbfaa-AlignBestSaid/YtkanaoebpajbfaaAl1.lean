/- The aligner's memory; contract of its offer. -/
import Derived.Test.YtkanaoebpajbfaaAlignLaw2
import Derived.Test.YtkanaoebpajbfaaRngM
import Derived.Test.YtkanaoebpajbfaaPA
import Derived.Test.YtkanaoebpajbfaaGR
import Derived.WideKeyEntry
namespace Go.Tok
open Go.RowKit
set_option linter.unusedVariables false
def spotV (s : SpotD) : Value := .agg #[.int .i64 (s.seen : Int), .int .i64 (s.mark : Int)]
def stpV (x : StpD) : Value := .agg #[.int .i64 (x.cost : Int), .int .i64 (x.src.seen : Int), .int .i64 (x.src.mark : Int), .int .i64 x.move.kind, .int .i64 x.move.label, .int .i64 x.move.tran, .bool x.fin]
theorem spotV_inj {x y : SpotD} (h : spotV x = spotV y) : x = y := by
  obtain ⟨a, b⟩ := x
  obtain ⟨c, d⟩ := y
  simp only [spotV, Value.agg.injEq, Array.mk.injEq, List.cons.injEq, Value.int.injEq, true_and, and_true] at h
  simp only [SpotD.mk.injEq]
  omega
def kvV (kvs : Kvs) : List (Value × Value) := kvs.map fun e => (spotV e.1, stpV e.2)
theorem kvV_mem {kvs : Kvs} {s : SpotD} {x : StpD} (h : lookF kvs s = some x) : (spotV s, stpV x) ∈ kvV kvs := List.mem_map.2 ⟨_, look_mem h, rfl⟩
theorem kvV_none {kvs : Kvs} {s : SpotD} (h : lookF kvs s = none) : ∀ e ∈ kvV kvs, e.1 ≠ spotV s := fun e he hh => by
  obtain ⟨z, hz, rfl⟩ := List.mem_map.1 he
  exact look_none h z hz (spotV_inj hh)
theorem kvV_put {kvs : Kvs} (hn : (kvs.map (·.1)).Nodup) {s : SpotD} {v : Value} {x : StpD} {j : Nat} (hj : (kvV kvs)[j]? = some (spotV s, v)) : putAt (kvV kvs) j (stpV x) = kvV (setF kvs s x) := by
  unfold kvV at *
  rw [List.getElem?_map] at hj
  obtain ⟨e, he, hee⟩ := Option.map_eq_some_iff.1 hj
  have hs : e.1 = s := spotV_inj (Prod.mk.inj hee).1
  unfold putAt setF
  apply List.ext_getElem?
  intro i
  rw [List.getElem?_modify, List.getElem?_map, List.getElem?_map, List.getElem?_map]
  cases hi : kvs[i]? with
  | none => rfl
  | some e' =>
    by_cases hji : j = i
    · subst hji
      rw [he] at hi
      cases hi
      simp [hs]
    · have hne : e'.1 ≠ s := fun hh => by
        have h1 := (List.getElem?_eq_some_iff.1 he)
        have h2 := (List.getElem?_eq_some_iff.1 hi)
        obtain ⟨l1, e1⟩ := h1
        obtain ⟨l2, e2⟩ := h2
        exact hji (nodup_at hn (i := j) (j := i) (by simpa using l1) (by simpa using l2) (by simp [e1, e2, hs, hh]))
      simp [hji, hne]
end Go.Tok
namespace Go.Proofs.Ytkanaoebpajbfaa
open Go.RowKit Go.Tok
open Go.WideMaps (KeyLaw)
open Go.WideElems
set_option linter.unusedVariables false
set_option maxRecDepth 100000 in
theorem spotLaidOut : laidOutB Try.prog = true := by kernel_rfl
set_option maxRecDepth 100000 in
theorem spotRow : 160 < Try.prog.types.size := of_decide_eq_true (by kernel_rfl)
set_option maxRecDepth 100000 in
theorem spotWide : (match Try.prog.underlying 160 with | some (.array _ _) | some (.struct _) => true | _ => false) = true := by kernel_rfl
set_option maxRecDepth 100000 in
theorem spotKeyed : Go.Maps.Keyed Try.prog 160 := Go.Maps.Keyed.of_law (deep_law_laid spotLaidOut (m := 2) (by omega) spotRow (by kernel_rfl) spotWide)
theorem key_ints2 {P : Program} {k : TypeId} {fs : Array Field} {f0 f1 : Field} (hk : P.underlying k = some (.struct fs)) (hfs : fs = #[f0, f1]) (o0 : f0.offset = 0) (o1 : f1.offset = 1) (h0 : P.underlying f0.type = some (.int .i64)) (h1 : P.underlying f1.type = some (.int .i64))
    (c0 : P.cellsOf f0.type = 1) (c1 : P.cellsOf f1.type = 1) (ck : P.cellsOf k = 2) (hn : fs.all (·.name != "_") = true) (hkt : P.keyType k = true) (m : Nat) (hsz : P.types.size = m + 1) (a b : Int) (ha : (Lit.int .i64 a).wf = true) (hb : (Lit.int .i64 b).wf = true) : ∃ l, keyOf P k (.agg #[.int .i64 a, .int .i64 b]) = some l := by
  subst hfs
  have hf : (Value.agg #[.int .i64 a, .int .i64 b]).formed P k = true := by simp [Value.formed, hk, ck]
  have hl : P.keyLits (P.types.size + 1) k (Value.agg #[.int .i64 a, .int .i64 b]).cells.toList = some [.int .i64 a, .int .i64 b] := by
    rw [hsz]
    unfold Program.keyLits
    rw [hk]
    simp only [Value.cells, List.length_cons, List.length_nil, ck, hn, and_self, if_true]
    simp [o0, o1, c0, c1, Program.keyLits, h0, h1, ha, hb]
  have : keyOf P k (Value.agg #[.int .i64 a, .int .i64 b]) = some (.string (keyBytes [.int .i64 a, .int .i64 b])) := by
    unfold keyOf
    rw [hk]
    simp [hkt, hf, hl]
  exact ⟨_, this⟩
theorem wf_nat {n : Nat} (h : n ≤ 1000000) : (Lit.int .i64 (n : Int)).wf = true := by
  simp [Lit.wf, IntKind.min, IntKind.max, IntKind.bits, IntKind.signed]
  omega
set_option maxRecDepth 100000 in
theorem spot_key (s : SpotD) (h1 : s.seen ≤ 1000000) (h2 : s.mark ≤ 1000000) : ∃ l, keyOf Try.prog 160 (spotV s) = some l :=
  key_ints2 Try.underlying160 rfl rfl rfl Try.underlying3 Try.underlying3 (by kernel_rfl) (by kernel_rfl) (by kernel_rfl) (by kernel_rfl) (by kernel_rfl) (Try.prog.types.size - 1) (by kernel_rfl) s.seen s.mark (wf_nat h1) (wf_nat h2)
set_option maxRecDepth 100000 in
theorem zeroStp (u : World) : (zeroValue 164).run Try.prog u = .ok (stpV stp0) u := by kernel_rfl
abbrev AMap (w : World) (mb : Nat) (kvs : Kvs) : Prop := MAt Try.prog 160 w mb (kvV kvs)
theorem amap_nodup {w : World} {mb : Nat} {kvs : Kvs} (h : AMap w mb kvs) : (kvs.map (·.1)).Nodup := by
  have := MAt.nodup h
  unfold kvV at this
  rw [List.map_map] at this
  rw [List.nodup_iff_pairwise_ne, List.pairwise_map]
  exact (List.pairwise_map.1 this).imp fun h e => h (by show spotV _ = spotV _; rw [e])
theorem gr_then {a b c : World} {row : Option Nat} (g : Gr a b) (h : b.grownBy c row) : a.grownBy c row :=
  ⟨h.os.trans g.below.os, h.tape.trans g.below.tape, h.output.trans g.below.output, Nat.le_trans g.le h.size, fun k hk hne => (h.block k (Nat.lt_of_lt_of_le hk g.le) hne).trans (g.below.block k hk)⟩
/-- where the map takes an offer -/
theorem AMap.offer {w : World} {mb : Nat} {kvs : Kvs} (h : AMap w mb kvs) {s : SpotD} (hs : s.seen ≤ 1000000 ∧ s.mark ≤ 1000000) (x : StpD) (hx : lookF kvs s = none ∨ ∃ y, lookF kvs s = some y ∧ x.cost < y.cost) :
    ∃ w', (Instr.mapUpdate 165 (.map (some mb)) (spotV s) (stpV x)).run Try.prog w = .ok () w' ∧ OnlyAt mb w w' ∧ AMap w' mb (offerF kvs s x) := by
  obtain ⟨l, hk⟩ := spot_key s hs.1 hs.2
  rcases hx with hn | ⟨y, hy, hc⟩
  · obtain ⟨w', h1, h2, h3⟩ := MAt.store_new spotKeyed Try.underlying165 h (stpV x) hk (kvV_none hn)
    refine ⟨w', h1, h2, ?_⟩
    have e : kvV (offerF kvs s x) = kvV kvs ++ [(spotV s, stpV x)] := by unfold offerF; rw [hn]; simp [kvV]
    show MAt _ _ _ _ (kvV (offerF kvs s x))
    rw [e]; exact h3
  · obtain ⟨w', j, h1, h2, h3, h4⟩ := MAt.store_old spotKeyed Try.underlying165 h (stpV x) hk (kvV_mem hy)
    refine ⟨w', h1, h2, ?_⟩
    have e : offerF kvs s x = setF kvs s x := by unfold offerF; rw [hy]; simp only []; rw [if_pos hc]
    show MAt _ _ _ _ (kvV (offerF kvs s x))
    rw [e, ← kvV_put (amap_nodup h) h3]; exact h4
theorem AMap.setOld {w : World} {mb : Nat} {kvs : Kvs} (h : AMap w mb kvs) {s : SpotD} (hs : s.seen ≤ 1000000 ∧ s.mark ≤ 1000000) {y : StpD} (hy : lookF kvs s = some y) (x : StpD) :
    ∃ w', (Instr.mapUpdate 165 (.map (some mb)) (spotV s) (stpV x)).run Try.prog w = .ok () w' ∧ OnlyAt mb w w' ∧ AMap w' mb (setF kvs s x) := by
  obtain ⟨l, hk⟩ := spot_key s hs.1 hs.2
  obtain ⟨w', j, h1, h2, h3, h4⟩ := MAt.store_old spotKeyed Try.underlying165 h (stpV x) hk (kvV_mem hy)
  refine ⟨w', h1, h2, ?_⟩
  show MAt _ _ _ _ (kvV (setF kvs s x))
  rw [← kvV_put (amap_nodup h) h3]; exact h4
/-- a function of worlds out of what holds of each later one -/
theorem fn_of {w : World} {Q : World → World → Prop} (h : ∀ w', Gr w w' → ∃ w2, Q w' w2) : ∃ f : World → World, ∀ w', Gr w w' → Q w' (f w') := by
  have H : ∀ w', ∃ w2, Gr w w' → Q w' w2 := fun w' => by
    by_cases g : Gr w w'
    · obtain ⟨w2, h1⟩ := h w' g
      exact ⟨w2, fun _ => h1⟩
    · exact ⟨w', fun g' => absurd g' g⟩
  exact ⟨fun w' => Classical.choose (H w'), fun w' => Classical.choose_spec (H w')⟩
/-- the aligner's struct, and its map -/
structure AlS (N : NetD) (na : Option Addr) (nc : Nat) (A : SpaceD) (ma : Option Addr) (mc : Nat) (aa : Option Addr) (ac : Nat) (tr : List Int) (ta : Option Addr) (tc : Nat) (w0 : World) (ab mb : Nat) (w : World) (kvs : Kvs) : Prop where
  blk : Blk w ab 167 #[.int .i64 N.places, .slice na N.trans.length nc, .slice ma A.marks.length mc, .slice aa A.arcs.length ac, .slice ta tr.length tc, .map (some mb)]
  map : AMap w mb kvs
  gr : Gr w0 w
  ne : ab ≠ mb
  mle : w0.heap.size ≤ mb
  ale : w0.heap.size ≤ ab
section
variable {N : NetD} {na : Option Addr} {nc : Nat} {A : SpaceD} {ma : Option Addr} {mc : Nat} {aa : Option Addr} {ac : Nat} {tr : List Int} {ta : Option Addr} {tc : Nat} {w0 w w' : World} {ab mb : Nat} {kvs : Kvs}
theorem AlS.gr' (h : AlS N na nc A ma mc aa ac tr ta tc w0 ab mb w kvs) (g : Gr w w') : AlS N na nc A ma mc aa ac tr ta tc w0 ab mb w' kvs :=
  ⟨h.blk.gr g, MAt.gr h.map g, h.gr.trans g, h.ne, h.mle, h.ale⟩
theorem AlS.put {kvs' : Kvs} (h : AlS N na nc A ma mc aa ac tr ta tc w0 ab mb w kvs) (g : w.grownBy w' (some mb)) (hm : AMap w' mb kvs') : AlS N na nc A ma mc aa ac tr ta tc w0 ab mb w' kvs' :=
  ⟨h.blk.grown g (by simpa using h.ne), hm, h.gr.grown g fun k hk => by cases hk; exact h.mle, h.ne, h.mle, h.ale⟩
set_option maxHeartbeats 4000000 in
set_option maxRecDepth 100000 in
theorem offer_calls (s : SpotD) (x : StpD) (hs : s.seen ≤ 1000000 ∧ s.mark ≤ 1000000) (h : AlS N na nc A ma mc aa ac tr ta tc w0 ab mb w kvs) :
    Calls Try.prog 150 #[.pointer (some ⟨ab, 0, none⟩), .agg #[.int .i64 (s.seen : Int), .int .i64 (s.mark : Int)], .agg #[.int .i64 (x.cost : Int), .int .i64 (x.src.seen : Int), .int .i64 (x.src.mark : Int), .int .i64 x.move.kind, .int .i64 x.move.label, .int .i64 x.move.tran, .bool x.fin]] w fun e w' => e = .returned (.tuple #[]) ∧ AlS N na nc A ma mc aa ac tr ta tc w0 ab mb w' (offerF kvs s x) ∧ w.grownBy w' (some mb) := by
  obtain ⟨w1, hw1⟩ : ∃ w1, w1 = (w.alloc (.cells #[.int .i64 (s.seen : Int), .int .i64 (s.mark : Int)] 160)).alloc (.cells #[.int .i64 (x.cost : Int), .int .i64 (x.src.seen : Int), .int .i64 (x.src.mark : Int), .int .i64 x.move.kind, .int .i64 x.move.label, .int .i64 x.move.tran, .bool x.fin] 164) := ⟨_, rfl⟩
  have G1 : Gr w w1 := by rw [hw1]; exact ((Gr.refl _).alloc _).alloc _
  have bs : Blk w1 w.heap.size 160 #[.int .i64 (s.seen : Int), .int .i64 (s.mark : Int)] := by rw [hw1]; exact (Blk.new rfl).gr ((Gr.refl _).alloc _)
  have bx : Blk w1 (w.heap.size + 1) 164 #[.int .i64 (x.cost : Int), .int .i64 (x.src.seen : Int), .int .i64 (x.src.mark : Int), .int .i64 x.move.kind, .int .i64 x.move.label, .int .i64 x.move.tran, .bool x.fin] := by rw [hw1]; exact Blk.new (by simp)
  have h1 := h.gr' G1
  have c5 := h1.blk.cell (i := 5) (v := .map (some mb)) rfl
  have s0 := bs.cell (i := 0) (v := .int .i64 (s.seen : Int)) rfl
  have s1 := bs.cell (i := 1) (v := .int .i64 (s.mark : Int)) rfl
  obtain ⟨l, hk⟩ := spot_key s hs.1 hs.2
  have HNE := Lib.hid (show w.heap.size ≠ mb ∧ w.heap.size + 1 ≠ mb by have := h.map.lt; omega)
  cases hlk : lookF kvs s with
  | none =>
    have HX := Lib.hid (show lookF kvs s = none ∨ ∃ y, lookF kvs s = some y ∧ x.cost < y.cost from .inl hlk)
    have HL : ∀ w', Gr w1 w' → (Instr.lookup 165 (.map (some mb)) (.agg #[.int .i64 (s.seen : Int), .int .i64 (s.mark : Int)]) true).run Try.prog w' = .ok (.tuple #[.agg #[.int .i64 0, .int .i64 0, .int .i64 0, .int .i64 0, .int .i64 0, .int .i64 0, .bool false], .bool false]) w' := fun w' g => (MAt.gr h1.map g).look_no_ok spotKeyed Try.underlying165 zeroStp hk (kvV_none hlk)
    have l0 := HL w1.drew ((Gr.refl _).drew)
    have KS := Lib.hid (show ∀ w', Gr w1 w' → w'.cell? ⟨ab, 5, none⟩ = some (.map (some mb)) ∧ w'.cell? ⟨w.heap.size, 0, none⟩ = some (.int .i64 (s.seen : Int)) ∧ w'.cell? ⟨w.heap.size, 1, none⟩ = some (.int .i64 (s.mark : Int)) ∧ (Instr.lookup 165 (.map (some mb)) (.agg #[.int .i64 (s.seen : Int), .int .i64 (s.mark : Int)]) true).run Try.prog w' = .ok (.tuple #[.agg #[.int .i64 0, .int .i64 0, .int .i64 0, .int .i64 0, .int .i64 0, .int .i64 0, .bool false], .bool false]) w' from fun w' g => ⟨cell_gr c5 g, cell_gr s0 g, cell_gr s1 g, HL w' g⟩)
    have H := Lib.hid h
    clear hk h h1 HL hlk
    go_enter Try.func150, Try.ntmps150
    go_wp2_with fail
    rw [← hw1]
    clear hw1
    go_region_held3 (fun w' => w'.cell? ⟨ab, 5, none⟩ = some (.map (some mb)) ∧ w'.cell? ⟨w.heap.size, 0, none⟩ = some (.int .i64 (s.seen : Int)) ∧ w'.cell? ⟨w.heap.size, 1, none⟩ = some (.int .i64 (s.mark : Int)) ∧ (Instr.lookup 165 (.map (some mb)) (.agg #[.int .i64 (s.seen : Int), .int .i64 (s.mark : Int)]) true).run Try.prog w' = .ok (.tuple #[.agg #[.int .i64 0, .int .i64 0, .int .i64 0, .int .i64 0, .int .i64 0, .int .i64 0, .bool false], .bool false]) w') (first | ((refine KS.out _ ?_); ((focus ((repeat (first | exact Gr.refl _ | assumption | apply Gr.alloc | apply Gr.drew | apply Gr.drewN | refine Gr.trans ?_ (by assumption))); done)))) | go_keep) (fail)
    all_goals (
      obtain ⟨w2, hw2⟩ : ∃ w2, w2 = (w1.alloc (.cells #[.int .i64 0, .int .i64 0, .int .i64 0, .int .i64 0, .int .i64 0, .int .i64 0, .bool false] 164)).drew := ⟨_, rfl⟩
      rw [← hw2]
      have G2 : Gr w1 w2 := by rw [hw2]; exact ((Gr.refl _).alloc _).drew
      have by_ : Blk w2 w1.heap.size 164 #[.int .i64 0, .int .i64 0, .int .i64 0, .int .i64 0, .int .i64 0, .int .i64 0, .bool false] := by rw [hw2]; exact (Blk.new rfl).gr ((Gr.refl _).drew)
      have y0 := by_.cell (i := 0) rfl
      have GG := G1.trans G2
      have h2 := H.out.gr' GG
      have bs2 := bs.gr G2
      have bx2 := bx.gr G2
      have x0 := bx2.cell (i := 0) rfl
      clear hw2 bs bx G1 G2 l0 c5 s0 s1 KS by_
      rename_i hHeld; clear hHeld
      obtain ⟨f, hf⟩ := fn_of (w := w2) (fun w' g => AMap.offer (MAt.gr h2.map g) hs x HX.out)
      unfold spotV stpV at hf
      have r0 := (hf w2.drew ((Gr.refl _).drew)).1
      have HF := Lib.hid hf
      have KT := Lib.hid (show ∀ w', Gr w2 w' → w'.cell? ⟨ab, 5, none⟩ = some (.map (some mb)) ∧ w'.cell? ⟨w.heap.size, 0, none⟩ = some (.int .i64 (s.seen : Int)) ∧ w'.cell? ⟨w.heap.size, 1, none⟩ = some (.int .i64 (s.mark : Int)) ∧ w'.cell? ⟨w.heap.size + 1, 0, none⟩ = some (.int .i64 (x.cost : Int)) ∧ w'.cell? ⟨w.heap.size + 1, 1, none⟩ = some (.int .i64 (x.src.seen : Int)) ∧ w'.cell? ⟨w.heap.size + 1, 2, none⟩ = some (.int .i64 (x.src.mark : Int)) ∧ w'.cell? ⟨w.heap.size + 1, 3, none⟩ = some (.int .i64 x.move.kind) ∧ w'.cell? ⟨w.heap.size + 1, 4, none⟩ = some (.int .i64 x.move.label) ∧ w'.cell? ⟨w.heap.size + 1, 5, none⟩ = some (.int .i64 x.move.tran) ∧ w'.cell? ⟨w.heap.size + 1, 6, none⟩ = some (.bool x.fin) from fun w' g => ⟨(h2.blk.gr g).cell (i := 5) rfl, (bs2.gr g).cell (i := 0) rfl, (bs2.gr g).cell (i := 1) rfl, (bx2.gr g).cell (i := 0) rfl, (bx2.gr g).cell (i := 1) rfl, (bx2.gr g).cell (i := 2) rfl, (bx2.gr g).cell (i := 3) rfl, (bx2.gr g).cell (i := 4) rfl, (bx2.gr g).cell (i := 5) rfl, (bx2.gr g).cell (i := 6) rfl⟩)
      have KU := Lib.hid (show ∀ w', Gr w2 w' → (f w').cell? ⟨ab, 5, none⟩ = some (.map (some mb)) ∧ (f w').cell? ⟨w.heap.size, 0, none⟩ = some (.int .i64 (s.seen : Int)) ∧ (f w').cell? ⟨w.heap.size, 1, none⟩ = some (.int .i64 (s.mark : Int)) ∧ (f w').cell? ⟨w.heap.size + 1, 0, none⟩ = some (.int .i64 (x.cost : Int)) ∧ (f w').cell? ⟨w.heap.size + 1, 1, none⟩ = some (.int .i64 (x.src.seen : Int)) ∧ (f w').cell? ⟨w.heap.size + 1, 2, none⟩ = some (.int .i64 (x.src.mark : Int)) ∧ (f w').cell? ⟨w.heap.size + 1, 3, none⟩ = some (.int .i64 x.move.kind) ∧ (f w').cell? ⟨w.heap.size + 1, 4, none⟩ = some (.int .i64 x.move.label) ∧ (f w').cell? ⟨w.heap.size + 1, 5, none⟩ = some (.int .i64 x.move.tran) ∧ (f w').cell? ⟨w.heap.size + 1, 6, none⟩ = some (.bool x.fin) from fun w' g => by
        have g2 := (HF.out w' g).2.1.grown
        have n1 : w.heap.size ≠ mb := HNE.out.1
        have n2 : w.heap.size + 1 ≠ mb := HNE.out.2
        exact ⟨((h2.blk.gr g).grown g2 (by simpa using h2.ne)).cell (i := 5) rfl, ((bs2.gr g).grown g2 (by simpa using n1)).cell (i := 0) rfl, ((bs2.gr g).grown g2 (by simpa using n1)).cell (i := 1) rfl, ((bx2.gr g).grown g2 (by simpa using n2)).cell (i := 0) rfl, ((bx2.gr g).grown g2 (by simpa using n2)).cell (i := 1) rfl, ((bx2.gr g).grown g2 (by simpa using n2)).cell (i := 2) rfl, ((bx2.gr g).grown g2 (by simpa using n2)).cell (i := 3) rfl, ((bx2.gr g).grown g2 (by simpa using n2)).cell (i := 4) rfl, ((bx2.gr g).grown g2 (by simpa using n2)).cell (i := 5) rfl, ((bx2.gr g).grown g2 (by simpa using n2)).cell (i := 6) rfl⟩)
      have H2 := Lib.hid h2
      have HG := Lib.hid GG
      clear hf h2 bs2 bx2 GG
      go_wp2_with fail
      go_region_held3 (fun w' => w'.cell? ⟨ab, 5, none⟩ = some (.map (some mb)) ∧ w'.cell? ⟨w.heap.size, 0, none⟩ = some (.int .i64 (s.seen : Int)) ∧ w'.cell? ⟨w.heap.size, 1, none⟩ = some (.int .i64 (s.mark : Int)) ∧ w'.cell? ⟨w.heap.size + 1, 0, none⟩ = some (.int .i64 (x.cost : Int)) ∧ w'.cell? ⟨w.heap.size + 1, 1, none⟩ = some (.int .i64 (x.src.seen : Int)) ∧ w'.cell? ⟨w.heap.size + 1, 2, none⟩ = some (.int .i64 (x.src.mark : Int)) ∧ w'.cell? ⟨w.heap.size + 1, 3, none⟩ = some (.int .i64 x.move.kind) ∧ w'.cell? ⟨w.heap.size + 1, 4, none⟩ = some (.int .i64 x.move.label) ∧ w'.cell? ⟨w.heap.size + 1, 5, none⟩ = some (.int .i64 x.move.tran) ∧ w'.cell? ⟨w.heap.size + 1, 6, none⟩ = some (.bool x.fin)) (first | ((refine KT.out _ ?_); ((focus ((repeat (first | exact Gr.refl _ | assumption | apply Gr.alloc | apply Gr.drew | apply Gr.drewN | refine Gr.trans ?_ (by assumption))); done)))) | ((refine KU.out _ ?_); ((focus ((repeat (first | exact Gr.refl _ | assumption | apply Gr.alloc | apply Gr.drew | apply Gr.drewN | refine Gr.trans ?_ (by assumption))); done)))) | go_keep) (fail)
      all_goals (
        have hh := HF.out w2.drew ((Gr.refl _).drew)
        have hg := hh.2.1.grown
        refine bodyPost_end (results_none rfl _ _ _) rfl ?_
        exact ⟨rfl, (H2.out.gr' ((Gr.refl _).drew)).put hg hh.2.2, gr_then (HG.out.trans ((Gr.refl _).drew)) hg⟩))
  | some y =>
    have HL : ∀ w', Gr w1 w' → (Instr.lookup 165 (.map (some mb)) (.agg #[.int .i64 (s.seen : Int), .int .i64 (s.mark : Int)]) true).run Try.prog w' = .ok (.tuple #[.agg #[.int .i64 (y.cost : Int), .int .i64 (y.src.seen : Int), .int .i64 (y.src.mark : Int), .int .i64 y.move.kind, .int .i64 y.move.label, .int .i64 y.move.tran, .bool y.fin], .bool true]) w' := fun w' g => (MAt.gr h1.map g).look_yes_ok spotKeyed Try.underlying165 hk (kvV_mem hlk)
    have l0 := HL w1.drew ((Gr.refl _).drew)
    by_cases hc : x.cost < y.cost
    · have HX := Lib.hid (show lookF kvs s = none ∨ ∃ y, lookF kvs s = some y ∧ x.cost < y.cost from .inr ⟨y, hlk, hc⟩)
      have q1 : decide ((x.cost : Int) < (y.cost : Int)) = true := by simpa using hc
      have q2 : (x.cost : Int) < (y.cost : Int) := by omega
      clear hc
      have KS := Lib.hid (show ∀ w', Gr w1 w' → w'.cell? ⟨ab, 5, none⟩ = some (.map (some mb)) ∧ w'.cell? ⟨w.heap.size, 0, none⟩ = some (.int .i64 (s.seen : Int)) ∧ w'.cell? ⟨w.heap.size, 1, none⟩ = some (.int .i64 (s.mark : Int)) ∧ (Instr.lookup 165 (.map (some mb)) (.agg #[.int .i64 (s.seen : Int), .int .i64 (s.mark : Int)]) true).run Try.prog w' = .ok (.tuple #[.agg #[.int .i64 (y.cost : Int), .int .i64 (y.src.seen : Int), .int .i64 (y.src.mark : Int), .int .i64 y.move.kind, .int .i64 y.move.label, .int .i64 y.move.tran, .bool y.fin], .bool true]) w' from fun w' g => ⟨cell_gr c5 g, cell_gr s0 g, cell_gr s1 g, HL w' g⟩)
      have H := Lib.hid h
      clear hk h h1 HL hlk
      go_enter Try.func150, Try.ntmps150
      go_wp2_with fail
      rw [← hw1]
      clear hw1
      go_region_held3 (fun w' => w'.cell? ⟨ab, 5, none⟩ = some (.map (some mb)) ∧ w'.cell? ⟨w.heap.size, 0, none⟩ = some (.int .i64 (s.seen : Int)) ∧ w'.cell? ⟨w.heap.size, 1, none⟩ = some (.int .i64 (s.mark : Int)) ∧ (Instr.lookup 165 (.map (some mb)) (.agg #[.int .i64 (s.seen : Int), .int .i64 (s.mark : Int)]) true).run Try.prog w' = .ok (.tuple #[.agg #[.int .i64 (y.cost : Int), .int .i64 (y.src.seen : Int), .int .i64 (y.src.mark : Int), .int .i64 y.move.kind, .int .i64 y.move.label, .int .i64 y.move.tran, .bool y.fin], .bool true]) w') (first | ((refine KS.out _ ?_); ((focus ((repeat (first | exact Gr.refl _ | assumption | apply Gr.alloc | apply Gr.drew | apply Gr.drewN | refine Gr.trans ?_ (by assumption))); done)))) | go_keep) (fail)
      all_goals (
        obtain ⟨w2, hw2⟩ : ∃ w2, w2 = (w1.alloc (.cells #[.int .i64 (y.cost : Int), .int .i64 (y.src.seen : Int), .int .i64 (y.src.mark : Int), .int .i64 y.move.kind, .int .i64 y.move.label, .int .i64 y.move.tran, .bool y.fin] 164)).drew := ⟨_, rfl⟩
        rw [← hw2]
        have G2 : Gr w1 w2 := by rw [hw2]; exact ((Gr.refl _).alloc _).drew
        have by_ : Blk w2 w1.heap.size 164 #[.int .i64 (y.cost : Int), .int .i64 (y.src.seen : Int), .int .i64 (y.src.mark : Int), .int .i64 y.move.kind, .int .i64 y.move.label, .int .i64 y.move.tran, .bool y.fin] := by rw [hw2]; exact (Blk.new rfl).gr ((Gr.refl _).drew)
        have y0 := by_.cell (i := 0) rfl
        have GG := G1.trans G2
        have h2 := H.out.gr' GG
        have bs2 := bs.gr G2
        have bx2 := bx.gr G2
        have x0 := bx2.cell (i := 0) rfl
        clear hw2 bs bx G1 G2 l0 c5 s0 s1 KS by_
        rename_i hHeld; clear hHeld
        obtain ⟨f, hf⟩ := fn_of (w := w2) (fun w' g => AMap.offer (MAt.gr h2.map g) hs x HX.out)
        unfold spotV stpV at hf
        have r0 := (hf w2.drew ((Gr.refl _).drew)).1
        have HF := Lib.hid hf
        have KT := Lib.hid (show ∀ w', Gr w2 w' → w'.cell? ⟨ab, 5, none⟩ = some (.map (some mb)) ∧ w'.cell? ⟨w.heap.size, 0, none⟩ = some (.int .i64 (s.seen : Int)) ∧ w'.cell? ⟨w.heap.size, 1, none⟩ = some (.int .i64 (s.mark : Int)) ∧ w'.cell? ⟨w.heap.size + 1, 0, none⟩ = some (.int .i64 (x.cost : Int)) ∧ w'.cell? ⟨w.heap.size + 1, 1, none⟩ = some (.int .i64 (x.src.seen : Int)) ∧ w'.cell? ⟨w.heap.size + 1, 2, none⟩ = some (.int .i64 (x.src.mark : Int)) ∧ w'.cell? ⟨w.heap.size + 1, 3, none⟩ = some (.int .i64 x.move.kind) ∧ w'.cell? ⟨w.heap.size + 1, 4, none⟩ = some (.int .i64 x.move.label) ∧ w'.cell? ⟨w.heap.size + 1, 5, none⟩ = some (.int .i64 x.move.tran) ∧ w'.cell? ⟨w.heap.size + 1, 6, none⟩ = some (.bool x.fin) from fun w' g => ⟨(h2.blk.gr g).cell (i := 5) rfl, (bs2.gr g).cell (i := 0) rfl, (bs2.gr g).cell (i := 1) rfl, (bx2.gr g).cell (i := 0) rfl, (bx2.gr g).cell (i := 1) rfl, (bx2.gr g).cell (i := 2) rfl, (bx2.gr g).cell (i := 3) rfl, (bx2.gr g).cell (i := 4) rfl, (bx2.gr g).cell (i := 5) rfl, (bx2.gr g).cell (i := 6) rfl⟩)
        have KU := Lib.hid (show ∀ w', Gr w2 w' → (f w').cell? ⟨ab, 5, none⟩ = some (.map (some mb)) ∧ (f w').cell? ⟨w.heap.size, 0, none⟩ = some (.int .i64 (s.seen : Int)) ∧ (f w').cell? ⟨w.heap.size, 1, none⟩ = some (.int .i64 (s.mark : Int)) ∧ (f w').cell? ⟨w.heap.size + 1, 0, none⟩ = some (.int .i64 (x.cost : Int)) ∧ (f w').cell? ⟨w.heap.size + 1, 1, none⟩ = some (.int .i64 (x.src.seen : Int)) ∧ (f w').cell? ⟨w.heap.size + 1, 2, none⟩ = some (.int .i64 (x.src.mark : Int)) ∧ (f w').cell? ⟨w.heap.size + 1, 3, none⟩ = some (.int .i64 x.move.kind) ∧ (f w').cell? ⟨w.heap.size + 1, 4, none⟩ = some (.int .i64 x.move.label) ∧ (f w').cell? ⟨w.heap.size + 1, 5, none⟩ = some (.int .i64 x.move.tran) ∧ (f w').cell? ⟨w.heap.size + 1, 6, none⟩ = some (.bool x.fin) from fun w' g => by
          have g2 := (HF.out w' g).2.1.grown
          have n1 : w.heap.size ≠ mb := HNE.out.1
          have n2 : w.heap.size + 1 ≠ mb := HNE.out.2
          exact ⟨((h2.blk.gr g).grown g2 (by simpa using h2.ne)).cell (i := 5) rfl, ((bs2.gr g).grown g2 (by simpa using n1)).cell (i := 0) rfl, ((bs2.gr g).grown g2 (by simpa using n1)).cell (i := 1) rfl, ((bx2.gr g).grown g2 (by simpa using n2)).cell (i := 0) rfl, ((bx2.gr g).grown g2 (by simpa using n2)).cell (i := 1) rfl, ((bx2.gr g).grown g2 (by simpa using n2)).cell (i := 2) rfl, ((bx2.gr g).grown g2 (by simpa using n2)).cell (i := 3) rfl, ((bx2.gr g).grown g2 (by simpa using n2)).cell (i := 4) rfl, ((bx2.gr g).grown g2 (by simpa using n2)).cell (i := 5) rfl, ((bx2.gr g).grown g2 (by simpa using n2)).cell (i := 6) rfl⟩)
        have H2 := Lib.hid h2
        have HG := Lib.hid GG
        clear hf h2 bs2 bx2 GG
        go_wp2_with fail
        go_region_held3 (fun w' => w'.cell? ⟨ab, 5, none⟩ = some (.map (some mb)) ∧ w'.cell? ⟨w.heap.size, 0, none⟩ = some (.int .i64 (s.seen : Int)) ∧ w'.cell? ⟨w.heap.size, 1, none⟩ = some (.int .i64 (s.mark : Int)) ∧ w'.cell? ⟨w.heap.size + 1, 0, none⟩ = some (.int .i64 (x.cost : Int)) ∧ w'.cell? ⟨w.heap.size + 1, 1, none⟩ = some (.int .i64 (x.src.seen : Int)) ∧ w'.cell? ⟨w.heap.size + 1, 2, none⟩ = some (.int .i64 (x.src.mark : Int)) ∧ w'.cell? ⟨w.heap.size + 1, 3, none⟩ = some (.int .i64 x.move.kind) ∧ w'.cell? ⟨w.heap.size + 1, 4, none⟩ = some (.int .i64 x.move.label) ∧ w'.cell? ⟨w.heap.size + 1, 5, none⟩ = some (.int .i64 x.move.tran) ∧ w'.cell? ⟨w.heap.size + 1, 6, none⟩ = some (.bool x.fin)) (first | ((refine KT.out _ ?_); ((focus ((repeat (first | exact Gr.refl _ | assumption | apply Gr.alloc | apply Gr.drew | apply Gr.drewN | refine Gr.trans ?_ (by assumption))); done)))) | ((refine KU.out _ ?_); ((focus ((repeat (first | exact Gr.refl _ | assumption | apply Gr.alloc | apply Gr.drew | apply Gr.drewN | refine Gr.trans ?_ (by assumption))); done)))) | go_keep) (fail)
        all_goals (
          have hh := HF.out w2.drew ((Gr.refl _).drew)
          have hg := hh.2.1.grown
          refine bodyPost_end (results_none rfl _ _ _) rfl ?_
          exact ⟨rfl, (H2.out.gr' ((Gr.refl _).drew)).put hg hh.2.2, gr_then (HG.out.trans ((Gr.refl _).drew)) hg⟩))
    · have HX := Lib.hid (show offerF kvs s x = kvs by unfold offerF; rw [hlk]; simp only []; rw [if_neg hc])
      have q1 : decide ((x.cost : Int) < (y.cost : Int)) = false := by simp; omega
      have q2 : ¬ (x.cost : Int) < (y.cost : Int) := by omega
      clear hc
      have KS := Lib.hid (show ∀ w', Gr w1 w' → w'.cell? ⟨ab, 5, none⟩ = some (.map (some mb)) ∧ w'.cell? ⟨w.heap.size, 0, none⟩ = some (.int .i64 (s.seen : Int)) ∧ w'.cell? ⟨w.heap.size, 1, none⟩ = some (.int .i64 (s.mark : Int)) ∧ (Instr.lookup 165 (.map (some mb)) (.agg #[.int .i64 (s.seen : Int), .int .i64 (s.mark : Int)]) true).run Try.prog w' = .ok (.tuple #[.agg #[.int .i64 (y.cost : Int), .int .i64 (y.src.seen : Int), .int .i64 (y.src.mark : Int), .int .i64 y.move.kind, .int .i64 y.move.label, .int .i64 y.move.tran, .bool y.fin], .bool true]) w' from fun w' g => ⟨cell_gr c5 g, cell_gr s0 g, cell_gr s1 g, HL w' g⟩)
      have H := Lib.hid h
      clear hk h h1 HL hlk
      go_enter Try.func150, Try.ntmps150
      go_wp2_with fail
      rw [← hw1]
      clear hw1
      go_region_held3 (fun w' => w'.cell? ⟨ab, 5, none⟩ = some (.map (some mb)) ∧ w'.cell? ⟨w.heap.size, 0, none⟩ = some (.int .i64 (s.seen : Int)) ∧ w'.cell? ⟨w.heap.size, 1, none⟩ = some (.int .i64 (s.mark : Int)) ∧ (Instr.lookup 165 (.map (some mb)) (.agg #[.int .i64 (s.seen : Int), .int .i64 (s.mark : Int)]) true).run Try.prog w' = .ok (.tuple #[.agg #[.int .i64 (y.cost : Int), .int .i64 (y.src.seen : Int), .int .i64 (y.src.mark : Int), .int .i64 y.move.kind, .int .i64 y.move.label, .int .i64 y.move.tran, .bool y.fin], .bool true]) w') (first | ((refine KS.out _ ?_); ((focus ((repeat (first | exact Gr.refl _ | assumption | apply Gr.alloc | apply Gr.drew | apply Gr.drewN | refine Gr.trans ?_ (by assumption))); done)))) | go_keep) (fail)
      all_goals (
        obtain ⟨w2, hw2⟩ : ∃ w2, w2 = (w1.alloc (.cells #[.int .i64 (y.cost : Int), .int .i64 (y.src.seen : Int), .int .i64 (y.src.mark : Int), .int .i64 y.move.kind, .int .i64 y.move.label, .int .i64 y.move.tran, .bool y.fin] 164)).drew := ⟨_, rfl⟩
        rw [← hw2]
        have G2 : Gr w1 w2 := by rw [hw2]; exact ((Gr.refl _).alloc _).drew
        have by_ : Blk w2 w1.heap.size 164 #[.int .i64 (y.cost : Int), .int .i64 (y.src.seen : Int), .int .i64 (y.src.mark : Int), .int .i64 y.move.kind, .int .i64 y.move.label, .int .i64 y.move.tran, .bool y.fin] := by rw [hw2]; exact (Blk.new rfl).gr ((Gr.refl _).drew)
        have y0 := by_.cell (i := 0) rfl
        have GG := G1.trans G2
        have h2 := H.out.gr' GG
        have bs2 := bs.gr G2
        have bx2 := bx.gr G2
        have x0 := bx2.cell (i := 0) rfl
        clear hw2 bs bx G1 G2 l0 c5 s0 s1 KS by_
        rename_i hHeld; clear hHeld
        go_wp2_with fail
        refine bodyPost_end (results_none rfl _ _ _) rfl ?_
        exact ⟨rfl, by rw [HX.out]; exact h2, gr_then GG ⟨rfl, rfl, rfl, Nat.le_refl _, fun _ _ _ => rfl⟩⟩)
end
end Go.Proofs.Ytkanaoebpajbfaa
