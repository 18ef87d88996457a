/- Nets that get smaller: what reduce does, step by step. No program is in sight here. -/
import Derived.Test.YtjpapgbdhflgnaaPA
import Derived.Test.YtjpapgbdhflgnaaGM
import Derived.Lib.SlicesCompact
import Derived.Lib.SlBuf
import Derived.Deep.RegionLaw
import Derived.Shelf.RegionOpenPlain
namespace Go.Tok
open Go.RowKit
set_option linter.unusedVariables false
/-- a net that goes from i to o, and gets smaller -/
structure SmD where
  net : NetD
  i : Int
  o : Int
def colF (ts : List TranD) (p : Nat) : List Int := ts.flatMap fun t => [nth t.pre p, nth t.post p]
def dropT (s : SmD) (k : Nat) : SmD := ⟨⟨s.net.places, s.net.trans.eraseIdx k⟩, s.i, s.o⟩
def lessP (p : Nat) (t : TranD) : TranD := ⟨t.label, t.pre.eraseIdx p, t.post.eraseIdx p⟩
def shiftP (p : Nat) (x : Int) : Int := if (p : Int) < x then x - 1 else x
def dropP (s : SmD) (p : Nat) : SmD := ⟨⟨s.net.places - 1, s.net.trans.map (lessP p)⟩, shiftP p s.i, shiftP p s.o⟩
def innerB (s : SmD) (p : Int) : Bool := p != s.i && p != s.o
def dupT (t u : TranD) : Bool := eqB t.pre u.pre && eqB t.post u.post
def dupB (ts : List TranD) (k : Nat) : Bool := (List.range k).any fun j => dupT (ix ts k) (ix ts j)
def transF (s : SmD) : Option SmD := ((List.range s.net.trans.length).find? (dupB s.net.trans)).map (dropT s)
def pairB (s : SmD) (q p : Nat) : Bool := innerB s p && (innerB s q && eqB (colF s.net.trans p) (colF s.net.trans q))
def twinF (s : SmD) : Option SmD := ((List.range s.net.places.toNat).find? fun q => (List.range q).any (pairB s q)).map (dropP s)
/-- the one with a weight, that is 1 -/
def onlyF (f : TranD → Int) (ts : List TranD) : Option Nat := match (List.range ts.length).find? (fun k => decide (0 < f (ix ts k))) with
  | none => none
  | some k => if f (ix ts k) = 1 ∧ (ts.drop (k + 1)).any (fun t => decide (0 < f t)) = false then some k else none
def sumF (l : List Int) : Int := l.foldl (· + ·) 0
def joinF (a b : List Int) (p : Nat) : List Int := ((List.range a.length).map fun q => nth a q + nth b q).set p 0
/-- two transitions are one, of which one feeds the other alone through p -/
def serieF (s : SmD) (p : Nat) : Option SmD :=
  match onlyF (fun t => nth t.post p) s.net.trans, onlyF (fun t => nth t.pre p) s.net.trans with
  | some k, some l =>
    if innerB s p = true ∧ k ≠ l ∧ sumF (ix s.net.trans l).pre = 1 ∧ maxF (joinF (ix s.net.trans k).post (ix s.net.trans l).post p) ≤ 9 then
      some (dropP (dropT ⟨⟨s.net.places, s.net.trans.set k ⟨(ix s.net.trans k).label, (ix s.net.trans k).pre, joinF (ix s.net.trans k).post (ix s.net.trans l).post p⟩⟩, s.i, s.o⟩ l) p)
    else none
  | _, _ => none
def seriesF (s : SmD) : Option SmD := (List.range s.net.places.toNat).findSome? (serieF s)
def redStep (s : SmD) : Option SmD := (transF s).or ((twinF s).or (seriesF s))
def redF : Nat → SmD → Nat → SmD × Nat
  | 0, s, n => (s, n)
  | f + 1, s, n => match redStep s with
    | none => (s, n)
    | some s' => redF f s' (n + 1)
/-- what a small net is bounded by -/
structure SmOk (s : SmD) : Prop where
  ok : netOkB s.net = true
  i0 : 0 ≤ s.i ∧ s.i < s.net.places
  o0 : 0 ≤ s.o ∧ s.o < s.net.places
end Go.Tok

/- Rows of transitions that hang on some blocks alone. No program is in sight here. -/
namespace Go.Tok
open Go.RowKit
set_option linter.unusedVariables false
/-- v reads as the transitions ts, and hangs on blocks of S alone -/
def TrO (S : Nat → Prop) (w : World) (v : Value) (ts : List TranD) : Prop :=
  ∃ a cap, v = .slice a ts.length cap ∧ ts.length ≤ cap ∧ cap ≤ maxLen ∧
    ∀ i, i < ts.length → ∃ b o vp vq, a = some ⟨b, o, none⟩ ∧ S b ∧ w.cell? ⟨b, o + i * 3, none⟩ = some (.int .i64 (ix ts i).label) ∧ w.cell? ⟨b, o + i * 3 + 1, none⟩ = some vp ∧ w.cell? ⟨b, o + i * 3 + 2, none⟩ = some vq ∧
      I64 (ix ts i).label ∧ On S (fun w => Ints w vp (ix ts i).pre) w ∧ On S (fun w => Ints w vq (ix ts i).post) w
section
variable {S S' : Nat → Prop} {w w' : World} {v : Value} {ts : List TranD}
theorem TrO.tr (h : TrO S w v ts) : TransR w v ts := by
  obtain ⟨a, cap, h1, h2, h3, h4⟩ := h
  refine TransR.intro h1 h2 h3 fun i hi => ?_
  obtain ⟨b, o, vp, vq, ha, _, c0, c1, c2, hl, hp, hq⟩ := h4 i hi
  rw [ix_def] at c0 hl hp hq
  exact ⟨b, o, vp, vq, ha, c0, c1, c2, hl, hp.now, hq.now⟩
theorem TrO.kp (h : TrO S w v ts) (k : Kp S w w') : TrO S w' v ts := by
  obtain ⟨a, cap, h1, h2, h3, h4⟩ := h
  refine ⟨a, cap, h1, h2, h3, fun i hi => ?_⟩
  obtain ⟨b, o, vp, vq, ha, hs, c0, c1, c2, hl, hp, hq⟩ := h4 i hi
  exact ⟨b, o, vp, vq, ha, hs, cell_kp k c0 hs, cell_kp k c1 hs, cell_kp k c2 hs, hl, hp.kp k, hq.kp k⟩
theorem TrO.gr (h : TrO S w v ts) (g : Gr w w') : TrO S w' v ts := h.kp g.kp
theorem TrO.len (h : TrO S w v ts) : ∃ a cap, v = .slice a ts.length cap ∧ ts.length ≤ cap ∧ cap ≤ 9223372036854775807 := by
  obtain ⟨a, cap, h1, h2, h3, _⟩ := h
  exact ⟨a, cap, h1, h2, by unfold maxLen at h3; omega⟩
theorem TrO.at_ {a : Option Addr} {n cap : Nat} (h : TrO S w (.slice a n cap) ts) {i : Nat} (hi : i < ts.length) :
    ∃ b o vp vq, a = some ⟨b, o, none⟩ ∧ w.cell? ⟨b, o + i * 3, none⟩ = some (.int .i64 (ix ts i).label) ∧ w.cell? ⟨b, o + i * 3 + 1, none⟩ = some vp ∧ w.cell? ⟨b, o + i * 3 + 2, none⟩ = some vq ∧
      I64 (ix ts i).label ∧ On S (fun w => Ints w vp (ix ts i).pre) w ∧ On S (fun w => Ints w vq (ix ts i).post) w := by
  obtain ⟨a', cap', h1, h2, h3, h4⟩ := h
  cases h1
  obtain ⟨b, o, vp, vq, ha, _, h5⟩ := h4 i hi
  exact ⟨b, o, vp, vq, ha, h5⟩
/-- what reads now hangs on what lies there now -/
theorem TrO.of (h : TransR w v ts) : TrO (fun b => b < w.heap.size) w v ts := by
  unfold TransR at h
  obtain ⟨a, cap, h1, h2, h3, h4⟩ := h
  refine ⟨a, cap, h1, h2, h3, fun i hi => ?_⟩
  obtain ⟨b, o, vp, vq, ha, c0, c1, c2, hl, hp, hq⟩ := h4 i hi
  rw [← ix_def] at c0 hl hp hq
  exact ⟨b, o, vp, vq, ha, cell_block c0, c0, c1, c2, hl, on_old (fun _ _ k h => h.kp k) hp (Kp.refl _ _), on_old (fun _ _ k h => h.kp k) hq (Kp.refl _ _)⟩
theorem TrO.mono (h : TrO S w v ts) (hs : ∀ b, b < w.heap.size → S b → S' b) : TrO S' w v ts := by
  obtain ⟨a, cap, h1, h2, h3, h4⟩ := h
  refine ⟨a, cap, h1, h2, h3, fun i hi => ?_⟩
  obtain ⟨b, o, vp, vq, ha, hb, c0, c1, c2, hl, hp, hq⟩ := h4 i hi
  exact ⟨b, o, vp, vq, ha, hs b (cell_block c0) hb, c0, c1, c2, hl, hp.mono hs, hq.mono hs⟩
theorem TrO.own {e base : Nat} (h : OwnR trK e base S w v ts) (hv : ∀ b, v.ownBlock = some b → S' b) (hs : ∀ b, b < w.heap.size → S b → S' b) : TrO S' w v ts := by
  rcases h.form with ⟨rfl, rfl⟩ | ⟨g, cap, rfl, _, _, h2, h3⟩
  · exact ⟨none, 0, rfl, Nat.le_refl _, by unfold maxLen; omega, fun i hi => by simp at hi⟩
  · refine ⟨_, cap, rfl, h2, by unfold maxLen; omega, fun i hi => ?_⟩
    obtain ⟨vs, hR, hc⟩ := h.at_ hi
    obtain ⟨p, q, rfl, hl, _, _⟩ := hR.now
    have e3 : trK.size = 3 := rfl
    rw [e3] at hc
    have hR' := hR.mono (S' := S') fun b hb hb' => hs b hb hb'.1
    refine ⟨g, 0, p, q, rfl, hv g rfl, by rw [Nat.zero_add]; exact hc 0 _ rfl, by rw [Nat.zero_add]; exact hc 1 _ rfl, by rw [Nat.zero_add]; exact hc 2 _ rfl, hl, hR'.imp fun W hW => ?_, hR'.imp fun W hW => ?_⟩
    · obtain ⟨p', q', e, _, hp, _⟩ := hW
      cases e; exact hp
    · obtain ⟨p', q', e, _, _, hq⟩ := hW
      cases e; exact hq
/-- its cells, one by one -/
theorem TrO.cells {ad : Addr} {n c : Nat} (h : TrO S w (.slice (some ad) n c) ts) :
    ∃ vss : List (List Value), vss.length = ts.length ∧ (∀ i, i < ts.length → On S (fun w => trK.R w (vss.getD i []) (ix ts i)) w) ∧ ∀ j x, vss.flatten[j]? = some x → w.cell? (ad.add j) = some x := by
  have hrd := rd_of_trans h.tr
  obtain ⟨vss, l1, l2, l3⟩ := hrd.cells (by decide)
  refine ⟨vss, l1, fun i hi => ?_, l3⟩
  obtain ⟨p, q, e, hl, _, _⟩ := l2 i hi
  obtain ⟨b, o, vp, vq, ha, _, c1, c2, _, hp, hq⟩ := h.at_ hi
  cases ha
  have hi' : i < vss.length := by omega
  have hvi : vss.getD i [] = vss[i] := by simp [hi']
  rw [hvi] at e
  have h3 : ∀ r ∈ vss.map (fun v => ((), v)), r.2.length = 3 := by
    intro r hr
    obtain ⟨v, hv, rfl⟩ := List.mem_map.1 hr
    obtain ⟨j, hj, rfl⟩ := List.getElem_of_mem hv
    have : (vss.getD j []).length = 3 := trK.len (l2 j (by omega))
    simpa [hj] using this
  have hfl : cellsOf (vss.map (fun v => ((), v))) = vss.flatten := by unfold cellsOf; rw [List.flatMap_map, List.flatMap_def]; simp
  have hat : ∀ j u, j < 3 → vss[i][j]? = some u → w.cell? ⟨b, o + i * 3 + j, none⟩ = some u := by
    intro j u hj hu
    have h4 := cellsOf_at (n := 3) h3 (i := i) (j := j) (by simpa using hi') hj
    rw [hfl] at h4
    have h5 : vss.flatten[i * 3 + j]? = some u := by rw [h4]; simp [hi']; exact hu
    have h6 := l3 _ _ h5
    rw [add_none, ← Nat.add_assoc] at h6
    exact h6
  have e1 : p = vp := by
    have := hat 1 p (by omega) (by rw [e]; rfl)
    rw [c1] at this
    exact (Option.some.inj this).symm
  have e2 : q = vq := by
    have := hat 2 q (by omega) (by rw [e]; rfl)
    rw [c2] at this
    exact (Option.some.inj this).symm
  subst e1 e2
  rw [hvi, e]
  exact (hp.and hq).imp fun W hW => ⟨_, _, rfl, hl, hW.1, hW.2⟩
end
end Go.Tok

/- Contract of the library's slices.Delete at a row of transitions of the call's own: one of them goes. -/
namespace Go.Tok
open Go.RowKit Go.Lib
set_option linter.unusedVariables false
theorem blk_lay {g : Nat} {t : TypeId} : ∀ (vs : List Value) (o : Nat) (w : World) (cs : Array Value), Blk w g t cs → Blk (w.setCells g o vs) g t (Go.Lib.lay cs o vs)
  | [], o, w, cs, h => h
  | v :: r, o, w, cs, h => blk_lay r (o + 1) _ _ (h.set o v)
theorem cells_other {g b : Nat} (hb : b ≠ g) : ∀ (vs : List Value) (o : Nat) (w : World), (w.setCells g o vs).heap[b]? = w.heap[b]?
  | [], o, w => rfl
  | v :: r, o, w => by
    have h1 := cells_other hb r (o + 1) (w.setCell ⟨g, o, none⟩ v)
    have h2 := Below.heap_setCell w ⟨g, o, none⟩ v b hb
    exact h1.trans h2
theorem cells_size {g : Nat} : ∀ (vs : List Value) (o : Nat) (w : World), (w.setCells g o vs).heap.size = w.heap.size
  | [], o, w => rfl
  | v :: r, o, w => by
    have h1 := cells_size (g := g) r (o + 1) (w.setCell ⟨g, o, none⟩ v)
    exact h1.trans (by simp [World.setCell])
theorem lay_len : ∀ (xs : List Value) (d : Array Value) (k : Nat), (Go.Lib.lay d k xs).size = d.size
  | [], d, k => rfl
  | x :: r, d, k => by rw [Go.Lib.lay, lay_len r]; simp
theorem cellsOf_td {α : Type} {n : Nat} : ∀ (rows : List (α × List Value)) (i : Nat), (∀ r ∈ rows, r.2.length = n) → cellsOf (rows.take i) = (cellsOf rows).take (i * n) ∧ cellsOf (rows.drop i) = (cellsOf rows).drop (i * n) := by
  intro rows
  induction rows with
  | nil => intro i _; simp [cellsOf]
  | cons r rest ih =>
    intro i h
    have e : ∀ r : α × List Value, ∀ rest, cellsOf (r :: rest) = r.2 ++ cellsOf rest := fun r rest => by simp [cellsOf]
    have hr := h r (by simp)
    cases i with
    | zero => simp [cellsOf]
    | succ i =>
      obtain ⟨h1, h2⟩ := ih i (fun r' hr' => h r' (by simp [hr']))
      rw [List.take_succ_cons, List.drop_succ_cons, e, e, h1, h2, Nat.add_mul, Nat.one_mul, Nat.add_comm, ← hr]
      constructor
      · rw [List.take_length_add_append]
      · rw [List.drop_length_add_append]
end Go.Tok
namespace Go.Proofs.Ytjpapgbdhflgnaa
open Go.RowKit Go.Tok Go.Lib
set_option linter.unusedVariables false
/-- the cells behind the deletion of the i-th three of n threes -/
theorem del_cells {cs : Array Value} {C : List Value} {n i : Nat} (hi : i < n) (hC : C.length = n * 3) (ht : cs.toList.take (n * 3) = C) (hsz : n * 3 ≤ cs.size) (zs : List Value) (hz : zs.length = 3) :
    (Go.Lib.lay (Go.Lib.lay cs (i * 3) (C.drop ((i + 1) * 3))) ((n - 1) * 3) zs).toList.take ((n - 1) * 3) = C.take (i * 3) ++ C.drop ((i + 1) * 3) := by
  have hd : (C.drop ((i + 1) * 3)).length = (n - (i + 1)) * 3 := by rw [List.length_drop, hC, Nat.sub_mul]
  apply List.ext_getElem?
  intro p
  by_cases hp : p < (n - 1) * 3
  · rw [List.getElem?_take_of_lt hp, Array.getElem?_toList, lay_get? _ _ _ _ (by rw [lay_len, hz]; omega), if_neg (by omega), lay_get? _ _ _ _ (by rw [hd]; omega), hd]
    by_cases h1 : i * 3 ≤ p
    · rw [if_pos (by omega), List.getElem?_append_right (by rw [List.length_take]; omega), List.length_take, hC, Nat.min_eq_left (by omega)]
    · rw [if_neg (by omega), List.getElem?_append_left (by rw [List.length_take]; omega), List.getElem?_take_of_lt (by omega), ← ht, List.getElem?_take_of_lt (by omega), Array.getElem?_toList]
  · rw [List.getElem?_eq_none (by simp; omega), List.getElem?_eq_none (by rw [List.length_append, hd, List.length_take]; omega)]
set_option maxHeartbeats 4000000 in
set_option maxRecDepth 100000 in
theorem DeleteTr_calls (g cap base i : Nat) (S : Nat → Prop) (ts : List TranD) (w : World) (h : OwnR trK 48 base S w (.slice (some ⟨g, 0, none⟩) ts.length cap) ts) (hi : i < ts.length) (hl : ts.length ≤ 1000) :
    Calls Try.prog 64 #[.slice (some ⟨g, 0, none⟩) ts.length cap, .int .i64 i, .int .i64 ((i : Int) + 1)] w fun e w' => e = .returned (.slice (some ⟨g, 0, none⟩) (ts.length - 1) cap) ∧ OwnR trK 48 base S w' (.slice (some ⟨g, 0, none⟩) (ts.length - 1) cap) (ts.eraseIdx i) ∧ ∀ w0 : World, Gr w0 w → w0.heap.size ≤ base → Gr w0 w' := by
  have hO := h
  unfold OwnR at h
  obtain ⟨rows, hts, hr, hall⟩ := h
  have hrl : rows.length = ts.length := by rw [hts, List.length_map]
  have hlen3 : ∀ r ∈ rows, r.2.length = 3 := fun r hr => trK.len (hall r hr).now
  rw [hrl] at hr
  obtain ⟨hC, hrest⟩ := hr
  rcases hrest with ⟨h1, _⟩ | ⟨g', cap', cs, h1, hb, hh, hn, hm, hs, ht⟩
  · cases h1
  cases h1
  have hs3 : cs.size = cap * 3 := hs
  have hC3 : (cellsOf rows).length = ts.length * 3 := hC
  have ht3 : cs.toList.take (ts.length * 3) = cellsOf rows := ht
  obtain ⟨C, hCe⟩ : ∃ C, C = cellsOf rows := ⟨_, rfl⟩
  rw [← hCe] at hC3 ht3
  have hB : Blk w g 48 cs := by unfold Blk; exact hh
  have hcap : cap ≤ 9223372036854775807 := by unfold maxLen at hm; omega
  have hone : ∀ u ∈ C, u.oneCell' = true := by
    intro u hu
    rw [hCe] at hu
    unfold cellsOf at hu
    obtain ⟨r, hr, hu⟩ := List.mem_flatMap.1 hu
    exact trK.one (hall r hr).now u hu
  have hget : ∀ p, p < ts.length * 3 → cs[p]? = C[p]? := fun p hp => by rw [← ht3, List.getElem?_take_of_lt hp, Array.getElem?_toList]
  obtain ⟨news, hnews⟩ : ∃ news, news = C.drop ((i + 1) * 3) := ⟨_, rfl⟩
  have hnl : news.length = (ts.length - (i + 1)) * 3 := by rw [hnews, List.length_drop, hC3, Nat.sub_mul]
  obtain ⟨A, hA, hsrc⟩ : ∃ A : Addr, (if cap = i + 1 then some (⟨g, 0, none⟩ : Addr) else some ⟨g, (i + 1) * 3, none⟩) = some A ∧ Hid (∀ t u, news[t]? = some u → w.drew.cell? (A.add t) = some u) := by
    by_cases hc : cap = i + 1
    · refine ⟨⟨g, 0, none⟩, by simp [hc], Lib.hid fun t u hu => ?_⟩
      have : news.length = 0 := by rw [hnl]; omega
      rw [List.length_eq_zero_iff.1 this] at hu
      simp at hu
    · refine ⟨⟨g, (i + 1) * 3, none⟩, by simp [hc], Lib.hid fun t u hu => ?_⟩
      have htl := (List.getElem?_eq_some_iff.1 hu).1
      rw [hnl] at htl
      rw [hnews, List.getElem?_drop] at hu
      rw [add_none]
      have : w.cell? ⟨g, (i + 1) * 3 + t, none⟩ = some u := hB.cell (by rw [hget _ (by omega)]; exact hu)
      exact this
  obtain ⟨zs, hzs⟩ : ∃ zs : List Value, zs = [.int .i64 0, .slice none 0 0, .slice none 0 0] := ⟨_, rfl⟩
  obtain ⟨W1, hW1⟩ : ∃ W1, W1 = w.drew.setCells g (0 + i * 3) news := ⟨_, rfl⟩
  have hB1 : Blk W1 g 48 (Go.Lib.lay cs (i * 3) news) := by
    rw [hW1, Nat.zero_add]
    exact blk_lay _ _ _ _ (hB.gr ((Gr.refl _).drew))
  have hcl : ∀ ty, (Builtin.clear_ #[26] ty #[.slice (some ⟨g, (ts.length - 1) * 3, none⟩) 1 (cap - (ts.length - 1))]).run Try.prog W1 = .ok (.tuple #[]) (W1.setCells g ((ts.length - 1) * 3) zs) := fun ty => by
    have hv : ∀ w, (zeroValue 48).run Try.prog w = .ok (.agg #[.int .i64 0, .slice none 0 0, .slice none 0 0]) w := fun w => by kernel_rfl
    have hzc : (Builtin.zeroCells (Value.agg #[.int .i64 0, .slice none 0 0, .slice none 0 0]).cells 1).toList = zs := by rw [hzs]; kernel_rfl
    have hst := run_storeCells_cells (P := Try.prog) g ((ts.length - 1) * 3) zs 0 W1 (fun j hj => by
        rw [hzs] at hj
        simp at hj
        rw [Nat.add_zero]
        have : (ts.length - 1) * 3 + j < (Go.Lib.lay cs (i * 3) news).size := by rw [lay_len]; omega
        rw [hB1.cell (Array.getElem?_eq_getElem this)]; rfl) (fun j hj => hB1.frozen _) (by rw [hzs]; intro v hv'; simp at hv'; rcases hv' with rfl | rfl <;> rfl)
    simp only [Nat.add_zero] at hst
    simp [Builtin.clear_, run_underlying Try.underlying26, hv, hzc, hst]
  have hfin : OwnR trK 48 base S (W1.setCells g ((ts.length - 1) * 3) zs) (.slice (some ⟨g, 0, none⟩) (ts.length - 1) cap) (ts.eraseIdx i) := by
    have hz3 : zs.length = 3 := by rw [hzs]; rfl
    have hmem : ∀ r ∈ rows.eraseIdx i, r ∈ rows := fun r hr => List.mem_of_mem_eraseIdx hr
    have hel : (rows.eraseIdx i).length = ts.length - 1 := by rw [List.length_eraseIdx_of_lt (by omega), hrl]
    have hce : cellsOf (rows.eraseIdx i) = C.take (i * 3) ++ C.drop ((i + 1) * 3) := by
      rw [List.eraseIdx_eq_take_drop_succ, hCe]
      have h1 := (cellsOf_td rows i hlen3).1
      have h2 := (cellsOf_td rows (i + 1) hlen3).2
      rw [← h1, ← h2]
      unfold cellsOf
      rw [List.flatMap_append]
    unfold OwnR
    have hB2 := blk_lay zs ((ts.length - 1) * 3) _ _ hB1
    unfold Blk at hB2
    refine ⟨rows.eraseIdx i, ?_, ⟨?_, .inr ⟨g, cap, _, by rw [hel], hb, hB2, by rw [hel]; omega, hm, by rw [lay_len, lay_len]; exact hs, ?_⟩⟩, fun r hr => ?_⟩
    · rw [hts, List.eraseIdx_eq_take_drop_succ, List.eraseIdx_eq_take_drop_succ, List.map_append, List.map_take, List.map_drop]
    · rw [hce, List.length_append, List.length_take, List.length_drop, hC3, hel]
      show _ = (ts.length - 1) * 3
      omega
    · rw [hel, hce, hnews]
      exact del_cells hi hC3 ht3 (by omega) zs hz3
    · refine (hall r (hmem r hr)).moved ?_ fun b hbl hsb => ⟨hsb, ?_⟩
      · rw [cells_size, hW1, cells_size]; exact Nat.le_refl _
      · have hne : b ≠ g := fun e => hsb.2 (by rw [e]; rfl)
        rw [cells_other hne, hW1, cells_other hne]; rfl
  have hgr : ∀ w0 : World, Gr w0 w → w0.heap.size ≤ base → Gr w0 (W1.setCells g ((ts.length - 1) * 3) zs) := fun w0 g0 hb0 => by
    have g1 : Gr w0 w.drew := g0.trans ((Gr.refl _).drew)
    rw [hW1]
    unfold Gr
    exact below_setCells g (by omega) _ _ (below_setCells g (by omega) _ _ g1.below)
  have s1 : Hid (news.length = (ts.length - (i + 1)) * 3) := Lib.hid hnl
  have s2 : Hid (∀ u ∈ news, u.oneCell' = true) := Lib.hid fun u hu => hone u (by rw [hnews] at hu; exact List.mem_of_mem_drop hu)
  have s3 : Hid (∀ t, t < news.length → (w.drew.cell? ⟨g, 0 + i * 3 + t, none⟩).isSome = true ∧ w.drew.frozen? ⟨g, 0 + i * 3 + t, none⟩ = false) := Lib.hid fun t htt => by
    rw [hnl] at htt
    have hlt : 0 + i * 3 + t < cs.size := by omega
    have hBd := hB.gr ((Gr.refl _).drew)
    exact ⟨by rw [hBd.cell (Array.getElem?_eq_getElem hlt)]; rfl, hBd.frozen _⟩
  have hM : i + (ts.length - (i + 1)) = ts.length - 1 := by omega
  have hcl2 : ∀ ty, (Builtin.clear_ #[26] ty #[.slice (some ⟨g, (i + (ts.length - (i + 1))) * 3, none⟩) (ts.length - (i + (ts.length - (i + 1)))) (cap - (i + (ts.length - (i + 1))))]).run Try.prog W1 = .ok (.tuple #[]) (W1.setCells g ((ts.length - 1) * 3) zs) := fun ty => by
    rw [hM, show ts.length - (ts.length - 1) = 1 by omega]; exact hcl ty
  have HM := Lib.hid hM
  clear hM hcl
  have HF := Lib.hid hfin
  have HG := Lib.hid hgr
  have HW := Lib.hid hW1
  obtain ⟨i0, hi0, hz1, hz2, _⟩ := info_parts trKTy.info
  have hz2' : i0.size = 3 := hz2
  have H0 := Lib.hid (And.intro hi0 hz2')
  have hic : i ≤ cap := by omega
  have hjc : i + 1 ≤ cap := by omega
  have q1 : ((i : Int) == (i : Int) + 1) = false := by rw [Bool.eq_false_iff]; intro e; rw [beq_iff_eq] at e; omega
  have hid1 : (i : Int) + 1 ≤ (ts.length : Int) := by omega
  have hid0 : (0 : Int) ≤ (i : Int) + 1 := by omega
  have mixed : Try.prog.follows Departure.mixedOrders = true := by kernel_rfl
  clear hO hall hts hrl hlen3 hC hh hs ht hs3 hC3 ht3 hCe hB hone hget hnews hnl hB1 hfin hgr hW1 hi0 hz1 hz2 hz2' hzs
  go_enter Try.func64, Try.ntmps64
  go_wp2_with fail
  go_region_law_o (refine step_append_room rfl (.tmp 22) (.tmp 25) 26 rfl 48 i0 3 Try.underlying26 H0.out.1 H0.out.2 g 0 i cap (by simp [Act.eval, Act.put]) A (ts.length - (i + 1)) (cap - (i + 1)) news (by simp [Act.eval, Act.put]) s1.out hsrc.out s2.out (by omega) s3.out ?_; rw [← HW.out])
  go_wp2_with fail
  go_ret
  exact ⟨by rw [← HM.out]; rfl, HF.out, HG.out⟩
end Go.Proofs.Ytjpapgbdhflgnaa

/- The small net in memory: its kind; contracts of reduce's dropTran, inner, sum. -/
namespace Go.Proofs.Ytjpapgbdhflgnaa
open Go.RowKit Go.Tok
set_option linter.unusedVariables false
set_option maxHeartbeats 1000000 in
set_option maxRecDepth 100000 in
theorem CloneTrO_calls (S : Nat → Prop) (v : Value) (ts : List TranD) (w : World) (hv : TrO S w v ts) (hl : ts.length ≤ 1000000) :
    Calls Try.prog 54 #[v] w fun e w' => ∃ v', e = .returned v' ∧ OwnR trK 48 w.heap.size (fun b => S b ∧ b < w.heap.size) w' v' ts ∧ Gr w w' := by
  obtain ⟨a, cap, rfl, h1, h2⟩ := hv.len
  cases a with
  | none =>
    obtain ⟨rfl, -⟩ := trans_none hv.tr
    have he := fun w n c n' c' => Lib.run_eql_slice_nil (P := Try.prog) w 26 48 none n c n' c' Try.underlying26
    go_enter Try.func54, Try.ntmps54
    go_wp2
    go_ret
    exact ⟨_, rfl, OwnR.nil _ _ _ _, Gr.refl _⟩
  | some ad =>
    have he := fun w n c n' c' => Lib.run_eql_slice_nil (P := Try.prog) w 26 48 (some ad) n c n' c' Try.underlying26
    have hr := rd_of_trans hv.tr
    obtain ⟨vss, l1, l2, l3⟩ := hv.cells
    have hy : ∀ i, i < ts.length → On (fun b => (S b ∧ b < w.heap.size) ∧ (Value.slice (some ⟨w.heap.size, 0, none⟩) 0 0).ownBlock ≠ some b) (fun w => trK.R w (vss.getD i []) (ix ts i)) (w.alloc (.cells #[] 48)) := fun i hi =>
      (l2 i hi).moved (by simp) fun b hb hs => ⟨⟨⟨hs, hb⟩, fun e => by have e2 : w.heap.size = b := Option.some.inj e; omega⟩, ((Gr.refl w).alloc (.cells #[] 48)).below.block b hb⟩
    have hown : OwnR trK 48 w.heap.size (fun b => S b ∧ b < w.heap.size) (w.alloc (.cells #[] 48)) (.slice (some ⟨w.heap.size, 0, none⟩) 0 0) [] := OwnR.lit [] rfl rfl rfl rfl rfl (by simp) (Nat.le_refl _) (by simp)
    have HY := Lib.hid hy
    have L3 := Lib.hid l3
    clear hy l2 l3
    go_enter Try.func54, Try.ntmps54
    go_wp2_with (at_builtin; refine app_many trKTy _ _ w.heap.size (fun b => S b ∧ b < w.heap.size) (.slice (some ⟨w.heap.size, 0, none⟩) 0 0) (.slice (some ad) ts.length cap) [] ts vss rfl rfl rfl rfl hown (hr.alloc _) l1 (fun ad' n c e j x hj => by cases e; exact cell_gr (L3.out j x hj) ((Gr.refl _).alloc _)) HY.out (by simp; omega) (by unfold maxLen; simp; omega) (by simp) ?_; intro v' w' ho hgr _ _)
    go_ret
    exact ⟨_, rfl, ho, hgr w (Nat.le_refl _) (by (repeat (first | exact Gr.refl _ | assumption | apply Gr.alloc | apply Gr.drew | apply Gr.drewN | refine Gr.trans ?_ (by assumption))))⟩
/-- the small net, in the block sb; what it hangs on lies elsewhere -/
structure SmW (w0 w : World) (sb : Nat) (s : SmD) : Prop where
  ex : ∃ tv, Blk w sb 65 #[.int .i64 s.net.places, tv, .int .i64 s.i, .int .i64 s.o] ∧ TrO (fun b => b ≠ sb ∧ w0.heap.size ≤ b) w tv s.net.trans
  gr : Gr w0 w
  le : w0.heap.size ≤ sb
theorem SmW.mv {w0 w w' : World} {sb : Nat} {s : SmD} (h : SmW w0 w sb s) (g : Gr w w') : SmW w0 w' sb s := by
  obtain ⟨tv, h1, h2⟩ := h.ex
  exact ⟨⟨tv, h1.gr g, h2.gr g⟩, h.gr.trans g, h.le⟩
theorem inner_calls (w0 w : World) (sb : Nat) (s : SmD) (p : Int) (h : SmW w0 w sb s) : Calls Try.prog 46 #[.pointer (some ⟨sb, 0, none⟩), .int .i64 p] w fun e w' => e = .returned (.bool (innerB s p)) ∧ w = w' := by
  obtain ⟨tv, hb, _⟩ := h.ex
  have c2 := hb.cell (i := 2) (v := .int .i64 s.i) rfl
  have c3 := hb.cell (i := 3) (v := .int .i64 s.o) rfl
  clear h hb
  unfold innerB
  cases h1 : p != s.i
  · go_enter Try.func46, Try.ntmps46
    go_wp2
    go_ret
    exact ⟨rfl, rfl⟩
  · go_enter Try.func46, Try.ntmps46
    go_wp2
    go_ret
    exact ⟨rfl, rfl⟩
set_option maxHeartbeats 1000000 in
theorem dropTran_kept (w0 w : World) (sb k : Nat) (s : SmD) (h : SmW w0 w sb s) (hk : k < s.net.trans.length) (hl : s.net.trans.length ≤ 1000) :
    Calls Try.prog 45 #[.pointer (some ⟨sb, 0, none⟩), .int .i64 k] w fun e w' => e = .returned (.tuple #[]) ∧ SmW w0 w' sb (dropT s k) ∧ Kp (fun b => b ≠ sb) w w' := by
  obtain ⟨tv, hb, hT⟩ := h.ex
  obtain ⟨a, cap, rfl, _, _⟩ := hT.len
  have c1 := hb.cell (i := 1) (v := .slice a s.net.trans.length cap) rfl
  have hle := h.le
  have hgr := h.gr
  have hsb := hb.lt
  have HB := Lib.hid hb
  have HC := Lib.hid (CloneTrO_calls _ _ _ w hT (by omega))
  clear h hb hT
  go_enter Try.func45, Try.ntmps45
  go_wp2_with fail
  refine HC.out.mono ?_
  rintro _ w1 ⟨v1, rfl, o1, g1⟩
  rcases o1.form with ⟨_, h0⟩ | ⟨g, c, rfl, hg1, hg2, _, _⟩
  · rw [h0] at hk; simp at hk
  have HD := Lib.hid (DeleteTr_calls g c _ k _ _ w1 o1 hk hl)
  clear o1
  go_wp2_with fail
  refine HD.out.mono ?_
  rintro _ w2 ⟨rfl, o2, g2⟩
  have G2 := g2 w g1 (Nat.le_refl _)
  have b2 := HB.out.gr G2
  have d1 := b2.cell (i := 1) (v := .slice a s.net.trans.length cap) rfl
  have f1 := b2.frozen 1
  have HB2 := Lib.hid b2
  have HO2 := Lib.hid o2
  have HG := Lib.hid G2
  clear b2 o2 g2 G2 HD HC
  go_wp2_with fail
  first | refine bodyPost_end (results_none rfl _ _ _) rfl ?_ | refine bodyPost_ret (results_none rfl _ _ _) rfl ?_
  have hgsb : sb < g := by omega
  have b3 := HB2.out.set 1 (.slice (some ⟨g, 0, none⟩) (s.net.trans.length - 1) c)
  refine ⟨rfl, ⟨⟨.slice (some ⟨g, 0, none⟩) (s.net.trans.length - 1) c, by simp only [List.setIfInBounds_toArray, List.set_cons_zero, List.set_cons_succ] at b3; exact b3, ?_⟩, ((hgr.trans HG.out)).setCell hle _, hle⟩, HG.out.kp.trans (set_kp (a := ⟨sb, 1, none⟩) (fun h => h rfl) _)⟩
  have hne : (Value.slice (some ⟨g, 0, none⟩) (s.net.trans.length - 1) c).ownBlock ≠ some sb := fun e => by have := own_eq e; omega
  exact TrO.own (HO2.out.other hne (fun hh => hh.1.1 rfl) _) (fun b hb => ⟨fun e => by subst e; exact hne hb, by have e : b = g := own_eq hb; have := hgr.le; omega⟩) (fun b _ hb => hb.1)
theorem dropTran_calls (w0 w : World) (sb k : Nat) (s : SmD) (h : SmW w0 w sb s) (hk : k < s.net.trans.length) (hl : s.net.trans.length ≤ 1000) :
    Calls Try.prog 45 #[.pointer (some ⟨sb, 0, none⟩), .int .i64 k] w fun e w' => e = .returned (.tuple #[]) ∧ SmW w0 w' sb (dropT s k) :=
  (dropTran_kept w0 w sb k s h hk hl).mono fun _ _ hh => ⟨hh.1, hh.2.1⟩
end Go.Proofs.Ytjpapgbdhflgnaa

/- Contract of reduce's column. -/
namespace Go.Tok
open Go.RowKit
set_option linter.unusedVariables false
theorem step_app_two {P : Program} {t e : TypeId} (T : IntTy P t e) {ops : Array Oper} {o : Oper} {a : Act} {w : World} {K : Act → World → Prop} {Q : Exit → Act → World → Prop} {E : Prop} (hgd : o.guard = none) (s x : Operand)
    (ho : o.op = .call { callee := .builtin .append, args := #[s, x], argTypes := #[t, t] }) (base : Nat) (v : Value) (xs : List Int) (b : Nat) (y z : Int) (hs : a.eval s = v) (hx : a.eval x = .slice (some ⟨b, 0, none⟩) 2 2) (hown : OwnI e base w v xs)
    (hcell : w.cell? ⟨b, 0, none⟩ = some (.int .i64 y) ∧ w.cell? ⟨b, 1, none⟩ = some (.int .i64 z)) (hy : I64 y ∧ I64 z) (hn : xs.length + 2 ≤ 17592186044416) (hbase : base ≤ w.heap.size)
    (hK : ∀ g cap w', OwnI e base w' (.slice (some ⟨g, 0, none⟩) (xs.length + 2) cap) (xs ++ [y, z]) → (∀ a : World, a.heap.size ≤ base → Gr a w → Gr a w') → w.grownBy w' v.ownBlock → (v.ownBlock = some g ∨ g = w.heap.size) → g < w'.heap.size → K (a.put o.dst (.slice (some ⟨g, 0, none⟩) (xs.length + 2) cap)) w') :
    if Region.wanted o (yielded ops a.tmps) = true then Oper.wp P o a w K Q else E := by
  obtain ⟨i, hi, hz, hsz, hby⟩ := info_parts T.info
  have hown' := hown
  unfold OwnI at hown'
  refine step_append_lies w hgd s x t ho base e i _ 1 8 T.und hi hz hsz hby rfl (by omega) v xs.length _ hs hown'.1 ⟨b, 0, none⟩ 2 2 [.int .i64 y, .int .i64 z] hx rfl ?_ (by simp [Value.oneCell']) (by omega) (by unfold maxLen; omega) (by omega) hbase w.heap.size rfl ?_
  · intro j u hj
    match j, hj with
    | 0, hj => cases hj; exact hcell.1
    | 1, hj => cases hj; exact hcell.2
    | j + 2, hj => simp at hj
  · intro g cap w' ho' hgr hat hlt
    have hall : ∀ q ∈ xs ++ [y, z], I64 q := by
      intro q hq
      rcases List.mem_append.1 hq with h1 | h1
      · exact hown'.2 q h1
      · simp at h1
        rcases h1 with rfl | rfl
        · exact hy.1
        · exact hy.2
    refine hK g cap w' (by unfold OwnI; refine ⟨by simpa using ho', ?_⟩; exact hall) ?_ hgr hat hlt
    · intro a hB hb
      exact hb.grown hgr fun k hk => Nat.le_trans hB (hown.lt hk).1
theorem colF_succ {ts : List TranD} {k p : Nat} (h : k < ts.length) : colF (ts.take (k + 1)) p = colF (ts.take k) p ++ [nth (ix ts k).pre p, nth (ix ts k).post p] := by
  unfold colF
  rw [List.take_succ_eq_append_getElem h, List.flatMap_append, ix_lt h]; simp
theorem colF_len (ts : List TranD) (p : Nat) : (colF ts p).length = 2 * ts.length := by
  unfold colF
  induction ts with
  | nil => rfl
  | cons t r ih => rw [List.flatMap_cons, List.length_append, ih]; simp; omega
end Go.Tok
namespace Go.Proofs.Ytjpapgbdhflgnaa
open Go.RowKit Go.Tok
set_option linter.unusedVariables false
set_option maxHeartbeats 4000000 in
set_option maxRecDepth 100000 in
theorem column_calls (w0 w : World) (sb p : Nat) (s : SmD) (h : SmW w0 w sb s) (hp : ∀ k, k < s.net.trans.length → p < (ix s.net.trans k).pre.length ∧ p < (ix s.net.trans k).post.length) (hl : s.net.trans.length ≤ 1000) (hp2 : p ≤ 1000) :
    Calls Try.prog 47 #[.pointer (some ⟨sb, 0, none⟩), .int .i64 p] w fun e w' => ∃ v', e = .returned v' ∧ OwnI 3 w.heap.size w' v' (colF s.net.trans p) ∧ Gr w w' := by
  obtain ⟨tv, hb, hT⟩ := h.ex
  obtain ⟨a, cap, rfl, _, _⟩ := hT.len
  have c1 := hb.cell (i := 1) (v := .slice a s.net.trans.length cap) rfl
  have HT := Lib.hid hT
  have HP := Lib.hid hp
  have T := intTy
  obtain ⟨ts, hts⟩ : ∃ ts, ts = s.net.trans := ⟨_, rfl⟩
  rw [← hts] at HT HP hl c1 ⊢
  clear h hb hT hp hts
  have hpI : (0 : Int) ≤ (p : Int) := by omega
  have mixed : Try.prog.follows Departure.mixedOrders = true := by kernel_rfl
  go_enter Try.func47, Try.ntmps47
  go_wp2_with fail
  go_loopw [5, 14] (fun out q wr => ∃ k : Nat, q = .int .i64 k ∧ k ≤ ts.length ∧ OwnI 3 w.heap.size wr out (colF (ts.take k) p) ∧ Gr w wr) (fun _ q _ => ts.length - (intOf q).toNat)
  case atStart => exact ⟨0, rfl, Nat.zero_le _, OwnI.nil _ _ _, Gr.refl _⟩
  case round =>
    rename World => wr
    obtain ⟨k, rfl, hk, ho, hgr⟩ := hrel
    by_cases hlt : k < ts.length
    · have hkI : (k : Int) < (ts.length : Int) := by omega
      have hk0 : (0 : Int) ≤ (k : Int) := by omega
      obtain ⟨b, o, vp, vq, rfl, d0, d1, d2, hlab, hop, hoq⟩ := (HT.out.gr hgr).at_ hlt
      have hpp := hop.now
      have hqq := hoq.now
      obtain ⟨h1, h2⟩ := HP.out k hlt
      have HN := Lib.hid (colF_succ (p := p) hlt)
      have hcl : (colF (ts.take k) p).length = 2 * k := by rw [colF_len, List.length_take, Nat.min_eq_left hk]
      obtain ⟨tk, htk⟩ : ∃ t, t = ix ts k := ⟨_, rfl⟩
      rw [← htk] at d0 hpp hqq h1 h2 HN
      clear htk hlab hop hoq
      obtain ⟨pa, pc, rfl, _, _⟩ := hpp.len
      obtain ⟨qa, qc, rfl, _, _⟩ := hqq.len
      obtain ⟨pb, po, rfl, x0⟩ := hpp.cell h1
      obtain ⟨qb, qo, rfl, y0⟩ := hqq.cell h2
      have hxy : I64 (nth tk.pre p) ∧ I64 (nth tk.post p) := ⟨hpp.range p, hqq.range p⟩
      have h1I : (p : Int) < (tk.pre.length : Int) := by omega
      have h2I : (p : Int) < (tk.post.length : Int) := by omega
      obtain ⟨wa, hwa⟩ : ∃ wa, wa = wr.alloc (.cells #[.int .i64 tk.label, .slice (some ⟨pb, po, none⟩) tk.pre.length pc, .slice (some ⟨qb, qo, none⟩) tk.post.length qc] 48) := ⟨_, rfl⟩
      have GA : Gr wr wa := by rw [hwa]; exact (Gr.refl _).alloc _
      have bX : Blk wa wr.heap.size 48 #[.int .i64 tk.label, .slice (some ⟨pb, po, none⟩) tk.pre.length pc, .slice (some ⟨qb, qo, none⟩) tk.post.length qc] := by rw [hwa]; exact Blk.new rfl
      have X1 := bX.cell (i := 1) (v := .slice (some ⟨pb, po, none⟩) tk.pre.length pc) rfl
      have X2 := bX.cell (i := 2) (v := .slice (some ⟨qb, qo, none⟩) tk.post.length qc) rfl
      have x1 := cell_gr x0 GA
      have y1 := cell_gr y0 GA
      have hoa := ho.gr GA
      have HGA := Lib.hid (hgr.trans GA)
      have HWA := Lib.hid hwa
      obtain ⟨oa, oc, rfl, _, _⟩ := ho.ints.len
      generalize hL : colF (ts.take k) p = L at hoa hcl HN ho ⊢
      clear bX x0 y0 ho hL hpp hqq GA hwa
      go_wp2_with fail
      rw [← HWA.out]
      have gd : Gr wa wa.drew := (Gr.refl _).drew
      have bL : Blk (wa.drew.alloc (.cells #[.int .i64 (nth tk.pre p), .int .i64 (nth tk.post p)] 3)) wa.heap.size 3 #[.int .i64 (nth tk.pre p), .int .i64 (nth tk.post p)] := Blk.new rfl
      have gl : Gr wa (wa.drew.alloc (.cells #[.int .i64 (nth tk.pre p), .int .i64 (nth tk.post p)] 3)) := gd.alloc _
      have HO1 := Lib.hid (hoa.gr gl)
      have HC1 := Lib.hid (And.intro (bL.cell (i := 0) (v := .int .i64 (nth tk.pre p)) rfl) (bL.cell (i := 1) (v := .int .i64 (nth tk.post p)) rfl))
      have HB1 := Lib.hid (HGA.out.trans gl)
      have HCL := Lib.hid hcl
      clear bL gl gd hoa hcl
      go_region_law_o (refine step_app_two T rfl (.tmp 18) (.tmp 29) rfl w.heap.size (.slice oa L.length oc) L wa.heap.size (nth tk.pre p) (nth tk.post p) (by simp [Act.eval]) (by simp [Act.eval]) HO1.out HC1.out hxy (by have := HCL.out; omega) HB1.out.le ?_; intro g cp w' ho2 hg2 hgb hat hlt2)
      all_goals
        have HO2 := Lib.hid ho2
        have HG2 := Lib.hid (hg2 w (Nat.le_refl _) HB1.out)
        clear ho2 hg2 hgb hat hlt2
        go_wp2_with fail
        exact ⟨⟨k + 1, by go_num, by omega, by rw [HN.out]; exact HO2.out, HG2.out⟩, by simp [intOf]; omega⟩
    · obtain rfl : k = ts.length := by omega
      rw [List.take_length] at ho
      have HO := Lib.hid ho
      go_wp2_with fail
      go_ret
      exact ⟨_, rfl, HO.out, hgr⟩
end Go.Proofs.Ytjpapgbdhflgnaa
