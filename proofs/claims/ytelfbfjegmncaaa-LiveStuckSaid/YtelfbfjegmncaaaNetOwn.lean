/- Rows of transitions that a call makes itself; blocks that are known whole. No program is in sight here. -/
import Derived.Test.YtelfbfjegmncaaaNetLit
import Derived.Deep.AppendLies
namespace Go.Tok
open Go.RowKit
set_option linter.unusedVariables false

/-! ### a block that is known whole -/
def Blk (w : World) (g : Nat) (t : TypeId) (cs : Array Value) : Prop := w.heap[g]? = some (.cells cs t (0, 0))
theorem Blk.lt {w : World} {g : Nat} {t : TypeId} {cs : Array Value} (h : Blk w g t cs) : g < w.heap.size := (Array.getElem?_eq_some_iff.1 h).1
theorem Blk.cell {w : World} {g : Nat} {t : TypeId} {cs : Array Value} (h : Blk w g t cs) {i : Nat} {v : Value} (hi : cs[i]? = some v) : w.cell? ⟨g, i, none⟩ = some v := by
  rw [cell_of_row w g i cs t (0, 0) h]; exact hi
theorem Blk.frozen {w : World} {g : Nat} {t : TypeId} {cs : Array Value} (h : Blk w g t cs) (i : Nat) : w.frozen? ⟨g, i, none⟩ = false := by
  unfold Blk at h
  simp [World.frozen?, h]
theorem Blk.gr {w w' : World} {g : Nat} {t : TypeId} {cs : Array Value} (h : Blk w g t cs) (hg : Gr w w') : Blk w' g t cs := (hg.below.block g h.lt).trans h
theorem Blk.new {w : World} {H : Nat} {t : TypeId} {cs : Array Value} (hH : w.heap.size = H) : Blk (w.alloc (.cells cs t)) H t cs := by
  subst hH; exact heap_alloc_new w _
theorem Blk.grown {w w' : World} {g : Nat} {t : TypeId} {cs : Array Value} {row : Option Nat} (h : Blk w g t cs) (hg : w.grownBy w' row) (hne : some g ≠ row) : Blk w' g t cs := (hg.block g h.lt hne).trans h
theorem Blk.other {w : World} {g : Nat} {t : TypeId} {cs : Array Value} (h : Blk w g t cs) {a : Addr} (hne : g ≠ a.block) (u : Value) : Blk (w.setCell a u) g t cs := (Below.heap_setCell w a u g hne).trans h
theorem Blk.set {w : World} {g : Nat} {t : TypeId} {cs : Array Value} (h : Blk w g t cs) (i : Nat) (u : Value) : Blk (w.setCell ⟨g, i, none⟩ u) g t (cs.setIfInBounds i u) := by
  unfold Blk at *
  simp [World.setCell, Array.getElem?_modify, h]

/-! ### ints that stay where another row is written -/
theorem Ints.own_block {w : World} {u : Value} {xs : List Int} (h : Ints w u xs) (hx : xs ≠ []) : ∃ k, u.ownBlock = some k ∧ k < w.heap.size := by
  have h0 : 0 < xs.length := by cases xs with | nil => exact absurd rfl hx | cons => simp
  obtain ⟨a, cap, rfl, _, _⟩ := h.len
  obtain ⟨b, o, rfl, hc⟩ := h.cell h0
  exact ⟨b, rfl, cell_block hc⟩
theorem Ints.kept {w w' : World} {u : Value} {xs : List Int} (h : Ints w u xs) (hk : xs ≠ [] → ∀ b, u.ownBlock = some b → ∀ o, w'.cell? ⟨b, o, none⟩ = w.cell? ⟨b, o, none⟩) : Ints w' u xs := by
  rcases h.form with ⟨rfl, rfl⟩ | ⟨ad, cap, rfl, hl, hc⟩
  · exact Ints.nil _
  · have h' := h
    unfold Ints at h' ⊢
    obtain ⟨a, cap', h1, h2, h3, h4, h5, h6⟩ := h'
    cases h1
    refine ⟨_, _, rfl, h2, h3, h4, h5, fun i hi => ?_⟩
    obtain ⟨b, o, hb, hcell⟩ := h6 i hi
    cases hb
    refine ⟨b, o, rfl, ?_⟩
    rw [hk (by intro e; subst e; simp at hi) b rfl]
    exact hcell
theorem Ints.grown {w w' : World} {u : Value} {xs : List Int} {row : Option Nat} (h : Ints w u xs) (hg : w.grownBy w' row) (hne : xs ≠ [] → ∀ k, u.ownBlock = some k → some k ≠ row) : Ints w' u xs :=
  h.kept fun hx b hb o => by
    obtain ⟨k, h1, h2⟩ := h.own_block hx
    rw [hb] at h1; cases h1
    exact World.cell?_of_block (hg.block b h2 (hne hx b hb))
theorem Ints.other {w : World} {u : Value} {xs : List Int} (h : Ints w u xs) {a : Addr} (hne : xs ≠ [] → ∀ k, u.ownBlock = some k → k ≠ a.block) (x : Value) : Ints (w.setCell a x) u xs :=
  h.kept fun hx b hb o => World.cell?_of_block (Below.heap_setCell w a x b (hne hx b hb))

/-- ints that a call holds beside the row it writes -/
def Held (base : Nat) (row : Option Nat) (w : World) (u : Value) (xs : List Int) : Prop := Ints w u xs ∧ (xs ≠ [] → ∀ k, u.ownBlock = some k → base ≤ k ∧ some k ≠ row)
theorem Held.gr {base : Nat} {row : Option Nat} {w w' : World} {u : Value} {xs : List Int} (h : Held base row w u xs) (g : Gr w w') : Held base row w' u xs := ⟨h.1.gr g, h.2⟩
theorem Held.other {base : Nat} {row : Option Nat} {w : World} {u : Value} {xs : List Int} (h : Held base row w u xs) {a : Addr} (ha : a.block < base) (x : Value) : Held base row (w.setCell a x) u xs :=
  ⟨h.1.other (fun hx k hk => by have := (h.2 hx k hk).1; omega) x, h.2⟩
theorem Held.grown {base : Nat} {row row' : Option Nat} {w w' : World} {u : Value} {xs : List Int} {g : Nat} (h : Held base row w u xs) (hg : w.grownBy w' row) (hr : row' = some g) (hat : row = some g ∨ w.heap.size ≤ g) : Held base row' w' u xs := by
  refine ⟨h.1.grown hg fun hx k hk => (h.2 hx k hk).2, fun hx k hk => ⟨(h.2 hx k hk).1, ?_⟩⟩
  rw [hr]
  rcases hat with h1 | h1
  · rw [← h1]; exact (h.2 hx k hk).2
  · obtain ⟨k', h2, h3⟩ := h.1.own_block hx
    rw [hk] at h2; cases h2
    intro e
    have : k = g := by injection e
    omega
/-- a clone, made when the row already stood -/
theorem Held.fresh {e base b' : Nat} {row : Option Nat} {w w' : World} {u : Value} {xs : List Int} (h : OwnI e b' w u xs) (hb : base ≤ b') (hr : ∀ k, row = some k → k < b') (g : Gr w w') : Held base row w' u xs :=
  ⟨h.ints.gr g, fun _ k hk => by
    have := (h.lt hk).1
    refine ⟨by omega, fun e => ?_⟩
    have := hr k e.symm
    omega⟩

/-! ### rows of transitions -/
def cells3 (rows : List (TranD × Value × Value)) : List Value := rows.flatMap fun r => [.int .i64 r.1.label, r.2.1, r.2.2]
theorem cells3_len (rows : List (TranD × Value × Value)) : (cells3 rows).length = rows.length * 3 := by
  induction rows with
  | nil => rfl
  | cons r l ih => simp only [cells3, List.flatMap_cons, List.length_append, List.length_cons, List.length_nil] at *; omega
theorem cells3_at {rows : List (TranD × Value × Value)} {i : Nat} (h : i < rows.length) : (cells3 rows)[i * 3]? = some (.int .i64 rows[i].1.label) ∧ (cells3 rows)[i * 3 + 1]? = some rows[i].2.1 ∧ (cells3 rows)[i * 3 + 2]? = some rows[i].2.2 := by
  induction rows generalizing i with
  | nil => simp at h
  | cons r l ih =>
    cases i with
    | zero => simp [cells3]
    | succ i =>
      have := ih (i := i) (by simpa using h)
      have e : (i + 1) * 3 = i * 3 + 3 := by omega
      simp only [cells3, List.flatMap_cons] at *
      rw [e]
      refine ⟨?_, ?_, ?_⟩
      · rw [List.getElem?_append_right (by simp)]; simpa using this.1
      · rw [List.getElem?_append_right (by simp)]; simpa using this.2.1
      · rw [List.getElem?_append_right (by simp)]; simpa using this.2.2
theorem cells3_snoc (rows : List (TranD × Value × Value)) (t : TranD) (p q : Value) : cells3 (rows ++ [(t, p, q)]) = cells3 rows ++ [.int .i64 t.label, p, q] := by simp [cells3]

structure TranTy (P : Program) (t e : TypeId) : Prop where
  und : P.underlying t = some (.slice e)
  info : (P.info? e).map (fun i => (i.zero, i.size, i.bytes)) = some (some (.agg #[.int .i64 0, .slice none 0 0, .slice none 0 0]), 3, 56)

def OwnT (e base : Nat) (w : World) (v : Value) (ts : List TranD) : Prop :=
  ∃ rows : List (TranD × Value × Value), rows.map (·.1) = ts ∧ w.ownsRow base e 3 v rows.length (cells3 rows) ∧ ∀ r ∈ rows, I64 r.1.label ∧ Held base v.ownBlock w r.2.1 r.1.pre ∧ Held base v.ownBlock w r.2.2 r.1.post
theorem OwnT.nil (e base : Nat) (w : World) : OwnT e base w (.slice none 0 0) [] := ⟨[], rfl, World.ownsRow_nil w base e 3, fun r hr => by simp at hr⟩
theorem OwnT.gr {e base : Nat} {w w' : World} {v : Value} {ts : List TranD} (h : OwnT e base w v ts) (g : Gr w w') : OwnT e base w' v ts := by
  obtain ⟨rows, h1, h2, h3⟩ := h
  exact ⟨rows, h1, ownsRow_below h2 g.below, fun r hr => ⟨(h3 r hr).1, (h3 r hr).2.1.gr g, (h3 r hr).2.2.gr g⟩⟩
theorem OwnT.other {e base : Nat} {w : World} {v : Value} {ts : List TranD} (h : OwnT e base w v ts) {a : Addr} (ha : a.block < base) (x : Value) : OwnT e base (w.setCell a x) v ts := by
  obtain ⟨rows, h1, h2, h3⟩ := h
  exact ⟨rows, h1, ownsRow_setCell_below h2 ha x, fun r hr => ⟨(h3 r hr).1, (h3 r hr).2.1.other ha x, (h3 r hr).2.2.other ha x⟩⟩
theorem OwnT.lt {e base : Nat} {w : World} {v : Value} {ts : List TranD} (h : OwnT e base w v ts) : ∀ k, v.ownBlock = some k → base ≤ k ∧ k < w.heap.size := by
  obtain ⟨rows, h1, h2, h3⟩ := h
  exact h2.lt
theorem OwnT.form {e base : Nat} {w : World} {v : Value} {ts : List TranD} (h : OwnT e base w v ts) : ∃ a cap, v = .slice a ts.length cap := by
  obtain ⟨rows, h1, h2, h3⟩ := h
  subst h1
  rcases h2.2 with ⟨h4, h5⟩ | ⟨g, cap, cur, h4, _⟩
  · exact ⟨none, 0, by rw [List.length_map, h5]; exact h4⟩
  · exact ⟨some ⟨g, 0, none⟩, cap, by rw [List.length_map]; exact h4⟩
theorem OwnT.trans {e base : Nat} {w : World} {v : Value} {ts : List TranD} (h : OwnT e base w v ts) : TransR w v ts := by
  obtain ⟨rows, rfl, h2, h3⟩ := h
  rcases h2.2 with ⟨h4, h5⟩ | ⟨g, cap, cur, h4, _, hblk, hn, hcap, hsz, htake⟩
  · obtain rfl := List.eq_nil_of_length_eq_zero h5
    rw [h4]; exact TransR.nil w
  · refine TransR.intro (a := some ⟨g, 0, none⟩) (cap := cap) (by rw [List.length_map]; exact h4) (by rw [List.length_map]; exact hn) hcap fun i hi => ?_
    rw [List.length_map] at hi
    have hr := h3 rows[i] (List.getElem_mem hi)
    have hd : (rows.map (·.1)).getD i default = rows[i].1 := by simp [hi]
    rw [hd]
    have hc := cells3_at hi
    have hcell : ∀ j, j < 3 → ∀ u, (cells3 rows)[i * 3 + j]? = some u → w.cell? ⟨g, 0 + i * 3 + j, none⟩ = some u := by
      intro j hj u hu
      have h6 := h2
      rw [h4] at h6
      rw [Nat.zero_add, h6.cellAt (i * 3 + j) (by omega)]
      exact hu
    exact ⟨g, 0, rows[i].2.1, rows[i].2.2, rfl, hcell 0 (by omega) _ hc.1, hcell 1 (by omega) _ hc.2.1, hcell 2 (by omega) _ hc.2.2, hr.1, hr.2.1.1, hr.2.2.1⟩

/-- 'append(out, Tran{..})' at a step of a region that draws its order -/
theorem step_app_tran {P : Program} {t e : TypeId} (T : TranTy P t e) {w : World} {ops : Array Oper} {o : Oper} {a : Act} {K : Act → World → Prop} {Q : Exit → Act → World → Prop} {E : Prop} (hgd : o.guard = none) (s x : Operand)
    (ho : o.op = .call { callee := .builtin .append, args := #[s, x], argTypes := #[t, t] }) (base : Nat) (v : Value) (ts : List TranD) (tr : TranD) (p q : Value) (ad : Addr) (hs : a.eval s = v) (hx : a.eval x = .slice (some ad) 1 1)
    (hown : OwnT e base w v ts) (hl : I64 tr.label) (hp : Held base v.ownBlock w p tr.pre) (hq : Held base v.ownBlock w q tr.post) (hnews : ∀ j u, [Value.int .i64 tr.label, p, q][j]? = some u → w.cell? (ad.add j) = some u) (h1 : p.oneCell' = true) (h2 : q.oneCell' = true)
    (hb : (ts.length + 1) * 56 ≤ 140737488355328) (hbase : base ≤ w.heap.size)
    (hK : ∀ g cap w', OwnT e base w' (.slice (some ⟨g, 0, none⟩) (ts.length + 1) cap) (ts ++ [tr]) → w.grownBy w' v.ownBlock → (v.ownBlock = some g ∨ w.heap.size = g) → g < w'.heap.size → K (a.put o.dst (.slice (some ⟨g, 0, none⟩) (ts.length + 1) cap)) w') :
    if Region.wanted o (yielded ops a.tmps) = true then Oper.wp P o a w K Q else E := by
  obtain ⟨i, hi, hz, hsz, hby⟩ := info_parts T.info
  obtain ⟨rows, rfl, hr, hall⟩ := hown
  rw [List.length_map] at hb hK
  have hone : ∀ u ∈ [Value.int .i64 tr.label, p, q], u.oneCell' = true := by
    intro u hu
    rcases List.mem_cons.1 hu with rfl | hu
    · rfl
    · rcases List.mem_cons.1 hu with rfl | hu
      · exact h1
      · rw [List.mem_singleton.1 hu]; exact h2
  refine step_append_lies w hgd s x t ho base e i _ 3 56 T.und hi hz hsz hby rfl (by omega) v rows.length (cells3 rows) hs hr ad 1 1 [.int .i64 tr.label, p, q] hx rfl hnews hone (by omega) (by unfold maxLen; omega) hb hbase w.heap.size rfl ?_
  intro g cap w' hown' hgr hat hlt
  refine hK g cap w' ⟨rows ++ [(tr, p, q)], by simp, ?_, ?_⟩ hgr (hat.imp id Eq.symm) hlt
  · rw [cells3_snoc, List.length_append]
    exact hown'
  · have hat' : v.ownBlock = some g ∨ w.heap.size ≤ g := hat.imp id (fun h => by omega)
    intro r hr'
    rcases List.mem_append.1 hr' with h5 | h5
    · obtain ⟨a1, a2, a3⟩ := hall r h5
      exact ⟨a1, a2.grown hgr rfl hat', a3.grown hgr rfl hat'⟩
    · rw [List.mem_singleton.1 h5]
      exact ⟨hl, hp.grown hgr rfl hat', hq.grown hgr rfl hat'⟩

/-! ### the net that is turned -/
def turnT (t : TranD) : TranD := ⟨t.label, t.post, t.pre⟩
def turnN (N : NetD) : NetD := ⟨N.places, N.trans.map turnT⟩
def turnUpto (N : NetD) (k : Nat) : List TranD := (N.trans.take k).map turnT
theorem turnUpto_zero (N : NetD) : turnUpto N 0 = [] := by simp [turnUpto]
theorem turnUpto_succ {N : NetD} {k : Nat} (h : k < N.trans.length) : turnUpto N (k + 1) = turnUpto N k ++ [turnT (N.tr k)] := by
  unfold turnUpto NetD.tr
  rw [List.take_succ_eq_append_getElem h, List.map_append]
  simp [h]
theorem turnUpto_succ' {N : NetD} {k : Nat} (h : k < N.trans.length) : turnUpto N (k + 1) = turnUpto N k ++ [⟨(N.tr k).label, (N.tr k).post, (N.tr k).pre⟩] := turnUpto_succ h
theorem turnUpto_all (N : NetD) : turnUpto N N.trans.length = (turnN N).trans := by simp [turnUpto, turnN]
theorem turnUpto_len {N : NetD} {k : Nat} (h : k ≤ N.trans.length) : (turnUpto N k).length = k := by
  simp [turnUpto]; omega
theorem turnN_places (N : NetD) : (turnN N).places = N.places := rfl
theorem turnT_label (t : TranD) : (turnT t).label = t.label := rfl
theorem turnT_pre (t : TranD) : (turnT t).pre = t.post := rfl
theorem turnT_post (t : TranD) : (turnT t).post = t.pre := rfl
theorem turnN_len (N : NetD) : (turnN N).trans.length = N.trans.length := by simp [turnN]
theorem turnN_tr (N : NetD) {k : Nat} (h : k < N.trans.length) : (turnN N).tr k = turnT (N.tr k) := by
  simp [NetD.tr, turnN, h]
theorem tranOk_turn {p : Int} {t : TranD} (h : tranOkB p t = true) : tranOkB p (turnT t) = true := by
  unfold tranOkB at *
  rw [turnT_label, turnT_pre, turnT_post]
  simp only [Bool.and_eq_true] at *
  obtain ⟨⟨⟨⟨⟨h1, h2⟩, h3⟩, h4⟩, h5⟩, h6⟩ := h
  exact ⟨⟨⟨⟨⟨h1, h2⟩, h4⟩, h3⟩, h6⟩, h5⟩
theorem netOk_turn {N : NetD} (h : netOkB N = true) : netOkB (turnN N) = true := by
  unfold netOkB at *
  simp only [Bool.and_eq_true, List.all_eq_true, decide_eq_true_eq] at *
  obtain ⟨⟨⟨h1, h2⟩, h3⟩, h4⟩ := h
  refine ⟨⟨⟨h1, h2⟩, by simpa [turnN] using h3⟩, fun t ht => ?_⟩
  obtain ⟨s, hs, rfl⟩ := List.mem_map.1 (show t ∈ N.trans.map turnT from ht)
  exact tranOk_turn (h4 s hs)
attribute [irreducible] Held OwnT turnUpto turnN turnT Blk
end Go.Tok
