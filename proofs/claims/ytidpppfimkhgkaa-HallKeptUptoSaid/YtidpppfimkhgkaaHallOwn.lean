/- The rows that a hall owns, beside a row of answers: how they stay apart. No program is in sight here. -/
import Derived.Test.YtidpppfimkhgkaaHallLaw
import Derived.Test.YtidpppfimkhgkaaPA
import Derived.WalkSmall
namespace Go.Tok
open Go.RowKit
set_option linter.unusedVariables false
def NoB : Nat → Prop := fun _ => False
/-- the last one of an own row is let go -/
theorem OwnR.pop {α : Type} {K : Kind α} {e base g n cap : Nat} {S : Nat → Prop} {w : World} {xs : List α} {x : α} (h : OwnR K e base S w (.slice (some ⟨g, 0, none⟩) (n + 1) cap) (xs ++ [x])) (hn : n = xs.length) : OwnR K e base S w (.slice (some ⟨g, 0, none⟩) n cap) xs := by
  unfold OwnR at *
  obtain ⟨rows, h1, h2, h3⟩ := h
  have hl : rows.length = n + 1 := by have := congrArg List.length h1; simp at this; omega
  rcases List.eq_nil_or_concat rows with rfl | ⟨l, r, rfl⟩
  · simp at hl
  · rw [List.concat_eq_append] at *
    have hll : l.length = n := by simpa using hl
    rw [List.map_append] at h1
    obtain ⟨h5, _⟩ := List.append_inj h1 (by simp; omega)
    refine ⟨l, h5, ?_, fun r' hr' => (h3 r' (by simp [hr'])).mono fun b _ h => ⟨h.1, h.2⟩⟩
    have e1 : cellsOf (l ++ [r]) = cellsOf l ++ r.2 := by unfold cellsOf; rw [List.flatMap_append]; simp
    rw [e1, hl] at h2
    have e2 : (cellsOf l).length = n * K.size := by
      rw [← hll]
      have : ∀ x ∈ l, x.2.length = K.size := fun x hx => K.len (h3 x (by simp [hx])).now
      clear h1 h2 h3 h5 e1 hl hll
      induction l with
      | nil => simp [cellsOf]
      | cons a l ih =>
        have e3 : cellsOf (a :: l) = a.2 ++ cellsOf l := by simp [cellsOf]
        rw [e3, List.length_append, ih (fun x hx => this x (by simp [hx])), this a (by simp), List.length_cons, Nat.add_mul]; omega
    rw [hll]
    exact ownsRow_pop e2 h2
/-- elements that hang on no memory hang on any blocks -/
theorem OwnR.flat_any {α : Type} {size : Nat} {cells : α → List Value} {ok : α → Prop} {h1 : ∀ x, (cells x).length = size} {h2 : ∀ x, ∀ u ∈ cells x, u.oneCell' = true} {e base : Nat} {S S' : Nat → Prop} {w : World} {v : Value} {xs : List α} (h : OwnR (flat size cells ok h1 h2) e base S w v xs) : OwnR (flat size cells ok h1 h2) e base S' w v xs := by
  unfold OwnR at *
  obtain ⟨rows, a1, a2, a3⟩ := h
  exact ⟨rows, a1, a2, fun r hr => On.true (p := r.2 = cells r.1 ∧ ok r.1) (a3 r hr).now⟩
/-- 'append(out, ys...)' within a region that draws its order; elements that hang on no memory -/
theorem step_app_flat {α : Type} [Inhabited α] {size : Nat} {cells : α → List Value} {ok : α → Prop} {h1 : ∀ x, (cells x).length = size} {h2 : ∀ x, ∀ u ∈ cells x, u.oneCell' = true} {P : Program} {t e : TypeId} {bytes : Nat} {z : Value}
    (T : KTy P t e (flat size cells ok h1 h2) bytes z) {ops : Array Oper} {o : Oper} {a : Act} {w : World} {KK : Act → World → Prop} {Q : Exit → Act → World → Prop} {E : Prop} (hgd : o.guard = none) (s x : Operand)
    (ho : o.op = .call { callee := .builtin .append, args := #[s, x], argTypes := #[t, t] }) (base : Nat) (S : Nat → Prop) (v : Value) (xs ys : List α) (ad : Addr) (c : Nat) (hs : a.eval s = v) (hx : a.eval x = .slice (some ad) ys.length c)
    (hown : OwnR (flat size cells ok h1 h2) e base S w v xs) (hsrc : Rd (flat size cells ok h1 h2) w (.slice (some ad) ys.length c) ys) (hok : ∀ y ∈ ys, ok y) (hp : 0 < ys.length) (hn : (xs.length + ys.length) * bytes ≤ 140737488355328) (hn' : xs.length + ys.length ≤ maxLen) (hbase : base ≤ w.heap.size)
    (hK : ∀ g cap w', OwnR (flat size cells ok h1 h2) e base S w' (.slice (some ⟨g, 0, none⟩) (xs.length + ys.length) cap) (xs ++ ys) → (∀ a : World, a.heap.size ≤ base → Gr a w → Gr a w') → w.grownBy w' v.ownBlock → (v.ownBlock = some g ∨ g = w.heap.size) → g < w'.heap.size → KK (a.put o.dst (.slice (some ⟨g, 0, none⟩) (xs.length + ys.length) cap)) w') :
    if Region.wanted o (yielded ops a.tmps) = true then Oper.wp P o a w KK Q else E := by
  obtain ⟨i, hi, hz, hsz, hb⟩ := info_parts T.info
  have hpos : 0 < size := T.pos
  have hfl : ∀ l : List α, ((l.map cells).flatten).length = l.length * size := by
    intro l
    induction l with
    | nil => simp
    | cons a r ih => rw [List.map_cons, List.flatten_cons, List.length_append, ih, h1, List.length_cons, Nat.add_mul]; omega
  have hone : ∀ u ∈ (ys.map cells).flatten, u.oneCell' = true := by
    intro u hu
    obtain ⟨vs, hvs, hu⟩ := List.mem_flatten.1 hu
    obtain ⟨y, _, rfl⟩ := List.mem_map.1 hvs
    exact h2 y u hu
  unfold OwnR at hown
  obtain ⟨rows, hxs, hr, hall⟩ := hown
  have hlr : rows.length = xs.length := by rw [hxs]; simp
  refine step_append_lies w hgd s x t ho base e i z size bytes T.und hi hz hsz hb T.zs T.pos v rows.length _ hs hr ad ys.length c (ys.map cells).flatten hx (hfl ys) (hsrc.flat_cells hpos) hone hp (by omega) (by rw [hlr]; exact hn) hbase w.heap.size rfl ?_
  intro g cap w' ho' hgr hat hlt
  rw [hlr] at ho' ⊢
  refine hK g cap w' ?_ (fun a hB hb => hb.grown hgr fun k hk => Nat.le_trans hB (hr.lt k hk).1) hgr hat hlt
  unfold OwnR
  refine ⟨rows ++ ys.zip (ys.map cells), ?_, ?_, ?_⟩
  · rw [List.map_append, List.map_fst_zip (by simp), hxs]
  · rw [List.length_append, List.length_zip, List.length_map, Nat.min_self, hlr]
    have : cellsOf (rows ++ ys.zip (ys.map cells)) = cellsOf rows ++ (ys.map cells).flatten := by
      unfold cellsOf
      rw [List.flatMap_append]
      congr 1
      exact flatten_zip _ _ (by simp)
    rw [this]; exact ho'
  · intro r hr'
    rcases List.mem_append.1 hr' with h | h
    · exact On.true (p := r.2 = cells r.1 ∧ ok r.1) (hall r h).now
    · obtain ⟨j, hj, rfl⟩ := List.getElem_of_mem h
      rw [List.length_zip, List.length_map, Nat.min_self] at hj
      refine On.true (p := (ys.zip (ys.map cells))[j].2 = cells (ys.zip (ys.map cells))[j].1 ∧ ok (ys.zip (ys.map cells))[j].1) ⟨by simp, ?_⟩
      simp only [List.getElem_zip]
      exact hok _ (List.getElem_mem hj)
/-- two rows do not lie in one block -/
def Ap (v u : Value) : Prop := ∀ b, v.ownBlock = some b → u.ownBlock ≠ some b
theorem Ap.symm {v u : Value} (h : Ap v u) : Ap u v := fun b h1 h2 => h b h2 h1
theorem Ap.or {v u : Value} (h : Ap v u) : v.ownBlock = none ∨ v.ownBlock ≠ u.ownBlock := by
  cases hv : v.ownBlock with
  | none => exact .inl rfl
  | some b => exact .inr fun e => h b hv e.symm
theorem Ap.new {v v' u : Value} {n : Nat} (h : Ap v u) (hat : v'.ownBlock = v.ownBlock ∨ v'.ownBlock = some n) (hu : ∀ b, u.ownBlock = some b → b < n) : Ap v' u := by
  intro b h1 h2
  rcases hat with h3 | h3
  · exact h b (h3 ▸ h1) h2
  · rw [h3] at h1; cases h1; exact absurd (hu _ h2) (Nat.lt_irrefl _)
/-- the rows of a hall at block hb, beside a row of answers and a block fb that is none of theirs -/
structure HOwn (tO tB tA : TypeId) (w0 : World) (hb fb : Nat) (tF : TypeId) (cF : Array Value) (out : Value) (l : List AnsD) (dv : Value) (d : List OpD) (bv : Value) (bs : List Nat) (w : World) : Prop where
  done : OwnR opK tO w0.heap.size NoB w dv d
  bytes : OwnR byteK tB w0.heap.size NoB w bv bs
  ans : OwnR ansK tA w0.heap.size NoB w out l
  hh : w0.heap.size ≤ hb
  hl : hb < w.heap.size
  d1 : dv.ownBlock ≠ some hb
  d2 : bv.ownBlock ≠ some hb
  d3 : out.ownBlock ≠ some hb
  d4 : Ap dv bv
  d5 : Ap dv out
  d6 : Ap bv out
  gr : Gr w0 w
  eb : Blk w fb tF cF
  e0 : fb ≠ hb
  e1 : dv.ownBlock ≠ some fb
  e2 : bv.ownBlock ≠ some fb
  e3 : out.ownBlock ≠ some fb
section
variable {tO tB tA : TypeId} {w0 w w' : World} {hb fb : Nat} {tF : TypeId} {cF : Array Value} {out : Value} {l : List AnsD} {dv : Value} {d : List OpD} {bv : Value} {bs : List Nat}
theorem no_hb {v' v : Value} {hb n : Nat} (h : v.ownBlock ≠ some hb) (hat : v'.ownBlock = v.ownBlock ∨ v'.ownBlock = some n) (hl : hb < n) : v'.ownBlock ≠ some hb := by
  rcases hat with h1 | h1
  · rw [h1]; exact h
  · rw [h1]; intro e; have := Option.some.inj e; omega
theorem HOwn.mv (H : HOwn tO tB tA w0 hb fb tF cF out l dv d bv bs w) (g : Gr w w') : HOwn tO tB tA w0 hb fb tF cF out l dv d bv bs w' :=
  ⟨H.done.gr g, H.bytes.gr g, H.ans.gr g, H.hh, Nat.lt_of_lt_of_le H.hl g.le, H.d1, H.d2, H.d3, H.d4, H.d5, H.d6, H.gr.trans g, H.eb.gr g, H.e0, H.e1, H.e2, H.e3⟩
/-- another spare block -/
theorem HOwn.spare {fb' : Nat} {tF' : TypeId} {cF' : Array Value} (H : HOwn tO tB tA w0 hb fb tF cF out l dv d bv bs w) (eb : Blk w fb' tF' cF') (e0 : fb' ≠ hb) (e1 : dv.ownBlock ≠ some fb') (e2 : bv.ownBlock ≠ some fb') (e3 : out.ownBlock ≠ some fb') : HOwn tO tB tA w0 hb fb' tF' cF' out l dv d bv bs w :=
  ⟨H.done, H.bytes, H.ans, H.hh, H.hl, H.d1, H.d2, H.d3, H.d4, H.d5, H.d6, H.gr, eb, e0, e1, e2, e3⟩
theorem HOwn.set (H : HOwn tO tB tA w0 hb fb tF cF out l dv d bv bs w) (k : Nat) (u : Value) : HOwn tO tB tA w0 hb fb tF cF out l dv d bv bs (w.setCell ⟨hb, k, none⟩ u) :=
  ⟨H.done.other H.d1 (fun h => h) u, H.bytes.other H.d2 (fun h => h) u, H.ans.other H.d3 (fun h => h) u, H.hh, by have := H.hl; simpa using this, H.d1, H.d2, H.d3, H.d4, H.d5, H.d6, H.gr.setCell H.hh u, H.eb.other H.e0 u, H.e0, H.e1, H.e2, H.e3⟩
/-- a store into a block that is none of the rows' -/
theorem HOwn.put (H : HOwn tO tB tA w0 hb fb tF cF out l dv d bv bs w) {q : Nat} (hq : w0.heap.size ≤ q) (h1 : dv.ownBlock ≠ some q) (h2 : bv.ownBlock ≠ some q) (h3 : out.ownBlock ≠ some q) (h4 : fb ≠ q) (k : Nat) (u : Value) : HOwn tO tB tA w0 hb fb tF cF out l dv d bv bs (w.setCell ⟨q, k, none⟩ u) :=
  ⟨H.done.other h1 (fun h => h) u, H.bytes.other h2 (fun h => h) u, H.ans.other h3 (fun h => h) u, H.hh, by have := H.hl; simpa using this, H.d1, H.d2, H.d3, H.d4, H.d5, H.d6, H.gr.setCell hq u, H.eb.other h4 u, H.e0, H.e1, H.e2, H.e3⟩
/-- a store into the spare block -/
theorem HOwn.fill (H : HOwn tO tB tA w0 hb fb tF cF out l dv d bv bs w) (hq : w0.heap.size ≤ fb) (k : Nat) (u : Value) : HOwn tO tB tA w0 hb fb tF (cF.setIfInBounds k u) out l dv d bv bs (w.setCell ⟨fb, k, none⟩ u) :=
  ⟨H.done.other H.e1 (fun h => h) u, H.bytes.other H.e2 (fun h => h) u, H.ans.other H.e3 (fun h => h) u, H.hh, by have := H.hl; simpa using this, H.d1, H.d2, H.d3, H.d4, H.d5, H.d6, H.gr.setCell hq u, H.eb.set k u, H.e0, H.e1, H.e2, H.e3⟩
theorem HOwn.appD {v' : Value} {d' : List OpD} (H : HOwn tO tB tA w0 hb fb tF cF out l dv d bv bs w) (ho : OwnR opK tO w0.heap.size NoB w' v' d') (hgs : ∀ a : World, a.heap.size ≤ w0.heap.size → Gr a w → Gr a w') (hgb : w.grownBy w' dv.ownBlock) (hat : v'.ownBlock = dv.ownBlock ∨ v'.ownBlock = some w.heap.size) : HOwn tO tB tA w0 hb fb tF cF out l v' d' bv bs w' :=
  ⟨ho, H.bytes.kept hgb H.d4.symm.or (fun _ _ h => h.elim), H.ans.kept hgb H.d5.symm.or (fun _ _ h => h.elim), H.hh, Nat.lt_of_lt_of_le H.hl hgb.size, no_hb H.d1 hat H.hl, H.d2, H.d3, H.d4.new hat (fun b h => (H.bytes.lt h).2), H.d5.new hat (fun b h => (H.ans.lt h).2), H.d6, hgs w0 (Nat.le_refl _) H.gr, H.eb.grown hgb (fun e => H.e1 e.symm), H.e0, no_hb H.e1 hat H.eb.lt, H.e2, H.e3⟩
theorem HOwn.appB {v' : Value} {bs' : List Nat} (H : HOwn tO tB tA w0 hb fb tF cF out l dv d bv bs w) (ho : OwnR byteK tB w0.heap.size NoB w' v' bs') (hgs : ∀ a : World, a.heap.size ≤ w0.heap.size → Gr a w → Gr a w') (hgb : w.grownBy w' bv.ownBlock) (hat : v'.ownBlock = bv.ownBlock ∨ v'.ownBlock = some w.heap.size) : HOwn tO tB tA w0 hb fb tF cF out l dv d v' bs' w' :=
  ⟨H.done.kept hgb H.d4.or (fun _ _ h => h.elim), ho, H.ans.kept hgb H.d6.symm.or (fun _ _ h => h.elim), H.hh, Nat.lt_of_lt_of_le H.hl hgb.size, H.d1, no_hb H.d2 hat H.hl, H.d3, (H.d4.symm.new hat (fun b h => (H.done.lt h).2)).symm, H.d5, H.d6.new hat (fun b h => (H.ans.lt h).2), hgs w0 (Nat.le_refl _) H.gr, H.eb.grown hgb (fun e => H.e2 e.symm), H.e0, H.e1, no_hb H.e2 hat H.eb.lt, H.e3⟩
theorem HOwn.appA {v' : Value} {l' : List AnsD} (H : HOwn tO tB tA w0 hb fb tF cF out l dv d bv bs w) (ho : OwnR ansK tA w0.heap.size NoB w' v' l') (hgs : ∀ a : World, a.heap.size ≤ w0.heap.size → Gr a w → Gr a w') (hgb : w.grownBy w' out.ownBlock) (hat : v'.ownBlock = out.ownBlock ∨ v'.ownBlock = some w.heap.size) : HOwn tO tB tA w0 hb fb tF cF v' l' dv d bv bs w' :=
  ⟨H.done.kept hgb H.d5.or (fun _ _ h => h.elim), H.bytes.kept hgb H.d6.or (fun _ _ h => h.elim), ho, H.hh, Nat.lt_of_lt_of_le H.hl hgb.size, H.d1, H.d2, no_hb H.d3 hat H.hl, H.d4, (H.d5.symm.new hat (fun b h => (H.done.lt h).2)).symm, (H.d6.symm.new hat (fun b h => (H.bytes.lt h).2)).symm, hgs w0 (Nat.le_refl _) H.gr, H.eb.grown hgb (fun e => H.e3 e.symm), H.e0, H.e1, H.e2, no_hb H.e3 hat H.eb.lt⟩
theorem HOwn.dropD {v' : Value} {d' : List OpD} (H : HOwn tO tB tA w0 hb fb tF cF out l dv d bv bs w) (ho : OwnR opK tO w0.heap.size NoB w v' d') (hat : v'.ownBlock = dv.ownBlock) : HOwn tO tB tA w0 hb fb tF cF out l v' d' bv bs w :=
  ⟨ho, H.bytes, H.ans, H.hh, H.hl, by rw [hat]; exact H.d1, H.d2, H.d3, fun b h => H.d4 b (hat ▸ h), fun b h => H.d5 b (hat ▸ h), H.d6, H.gr, H.eb, H.e0, by rw [hat]; exact H.e1, H.e2, H.e3⟩
/-- both rows are made anew -/
theorem HOwn.anew {dv' bv' : Value} {d' : List OpD} {bs' : List Nat} {n m : Nat} (H : HOwn tO tB tA w0 hb fb tF cF out l dv d bv bs w) (g : Gr w w') (ho : OwnR opK tO n NoB w' dv' d') (hn : w.heap.size ≤ n) (hm : ∀ b, dv'.ownBlock = some b → b < m) (hp : OwnR byteK tB m NoB w' bv' bs') (hnm : n ≤ m) : HOwn tO tB tA w0 hb fb tF cF out l dv' d' bv' bs' w' := by
  have h0 := H.gr.le
  have hl := H.hl
  have he := H.eb.lt
  refine ⟨ho.low (by omega), hp.low (by omega), H.ans.gr g, H.hh, Nat.lt_of_lt_of_le H.hl g.le, ?_, ?_, H.d3, ?_, ?_, ?_, H.gr.trans g, H.eb.gr g, H.e0, ?_, ?_, H.e3⟩
  · intro e; have := (ho.lt e).1; omega
  · intro e; have := (hp.lt e).1; omega
  · intro b h1 h2; have := hm b h1; have := (hp.lt h2).1; omega
  · intro b h1 h2; have := (ho.lt h1).1; have := (H.ans.lt h2).2; omega
  · intro b h1 h2; have := (hp.lt h1).1; have := (H.ans.lt h2).2; omega
  · intro e; have := (ho.lt e).1; omega
  · intro e; have := (hp.lt e).1; omega
end
end Go.Tok
