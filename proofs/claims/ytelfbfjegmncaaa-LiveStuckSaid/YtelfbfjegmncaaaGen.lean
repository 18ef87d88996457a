/- Rows of elements of whatever kind: how they read, and rows that a call makes itself; facts that hang on some blocks alone. No program is in sight here. -/
import Derived.Test.YtelfbfjegmncaaaCore
import Derived.Deep.AppendLies
namespace Go.Tok
open Go.RowKit
set_option linter.unusedVariables false

/-! ### facts that hang on some blocks alone -/
/-- the blocks of S that lie in w stand in w' as they stood -/
def Kp (S : Nat → Prop) (w w' : World) : Prop := w.heap.size ≤ w'.heap.size ∧ ∀ b, b < w.heap.size → S b → w'.heap[b]? = w.heap[b]?
def All : Nat → Prop := fun _ => True
theorem Kp.refl (S : Nat → Prop) (w : World) : Kp S w w := ⟨Nat.le_refl _, fun _ _ _ => rfl⟩
theorem Kp.trans {S : Nat → Prop} {a b c : World} (h : Kp S a b) (k : Kp S b c) : Kp S a c :=
  ⟨Nat.le_trans h.1 k.1, fun i hi hs => (k.2 i (Nat.lt_of_lt_of_le hi h.1) hs).trans (h.2 i hi hs)⟩
theorem Kp.mono {S S' : Nat → Prop} {w w' : World} (h : Kp S w w') (hs : ∀ b, b < w.heap.size → S' b → S b) : Kp S' w w' := ⟨h.1, fun b hb hb' => h.2 b hb (hs b hb hb')⟩
theorem Gr.kp {S : Nat → Prop} {w w' : World} (g : Gr w w') : Kp S w w' := ⟨g.le, fun b hb _ => g.below.block b hb⟩
theorem grown_kp {S : Nat → Prop} {w w' : World} {row : Option Nat} (g : w.grownBy w' row) (h : ∀ b, S b → some b ≠ row) : Kp S w w' := ⟨g.size, fun b hb hs => g.block b hb (h b hs)⟩
theorem set_kp {S : Nat → Prop} {w : World} {a : Addr} (h : ¬ S a.block) (u : Value) : Kp S w (w.setCell a u) :=
  ⟨by simp [World.setCell], fun b _ hs => Below.heap_setCell w a u b (fun e => h (e ▸ hs))⟩

/-- p holds of w, and of every world in which the blocks of S stand as in w -/
def On (S : Nat → Prop) (p : World → Prop) (w : World) : Prop := ∀ w', Kp S w w' → p w'
theorem On.now {S : Nat → Prop} {p : World → Prop} {w : World} (h : On S p w) : p w := h w (Kp.refl _ _)
theorem On.kp {S : Nat → Prop} {p : World → Prop} {w w' : World} (h : On S p w) (k : Kp S w w') : On S p w' := fun w'' k' => h w'' (k.trans k')
theorem On.moved {S S' : Nat → Prop} {p : World → Prop} {w w' : World} (h : On S p w) (hs : w.heap.size ≤ w'.heap.size) (hk : ∀ b, b < w.heap.size → S b → S' b ∧ w'.heap[b]? = w.heap[b]?) : On S' p w' :=
  fun w'' k => h w'' ⟨Nat.le_trans hs k.1, fun b hb hb' => by
    obtain ⟨h1, h2⟩ := hk b hb hb'
    exact (k.2 b (Nat.lt_of_lt_of_le hb hs) h1).trans h2⟩
theorem On.mono {S S' : Nat → Prop} {p : World → Prop} {w : World} (h : On S p w) (hs : ∀ b, b < w.heap.size → S b → S' b) : On S' p w := h.moved (Nat.le_refl _) fun b hb hb' => ⟨hs b hb hb', rfl⟩
theorem On.imp {S : Nat → Prop} {p q : World → Prop} {w : World} (h : On S p w) (hpq : ∀ w, p w → q w) : On S q w := fun w' k => hpq _ (h w' k)
theorem On.and {S : Nat → Prop} {p q : World → Prop} {w : World} (h : On S p w) (k : On S q w) : On S (fun w => p w ∧ q w) w := fun w' k' => ⟨h w' k', k w' k'⟩
theorem On.true {S : Nat → Prop} {p : Prop} {w : World} (h : p) : On S (fun _ => p) w := fun _ _ => h
/-- what holds of an earlier world hangs on that world's blocks -/
theorem on_old {p : World → Prop} (hp : ∀ w w', Kp All w w' → p w → p w') {w0 w : World} (h : p w0) (g : Kp (fun b => b < w0.heap.size) w0 w) : On (fun b => b < w0.heap.size) p w :=
  fun w' k => hp w0 w' ⟨Nat.le_trans g.1 k.1, fun b hb _ => (k.2 b (Nat.lt_of_lt_of_le hb g.1) hb).trans (g.2 b hb hb)⟩ h
theorem On.gr {S : Nat → Prop} {p : World → Prop} {w w' : World} (h : On S p w) (g : Gr w w') : On S p w' := h.kp g.kp

theorem cell_kp {S : Nat → Prop} {w w' : World} {a : Addr} {v : Value} (k : Kp S w w') (h : w.cell? a = some v) (hs : S a.block) : w'.cell? a = some v := by
  have hb := cell_block h
  have := k.2 a.block hb hs
  unfold World.cell? at *
  rw [this]; exact h
theorem Ints.kp {w w' : World} {v : Value} {xs : List Int} (h : Ints w v xs) (k : Kp All w w') : Ints w' v xs := by
  unfold Ints at *
  obtain ⟨a, cap, h1, h2, h3, h4, h6, h5⟩ := h
  refine ⟨a, cap, h1, h2, h3, h4, h6, fun i hi => ?_⟩
  obtain ⟨b, o, ha, hc⟩ := h5 i hi
  exact ⟨b, o, ha, cell_kp k hc trivial⟩
theorem Ints.on_own {e base : Nat} {w : World} {v : Value} {xs : List Int} (h : OwnI e base w v xs) : On (fun b => v.ownBlock = some b) (fun w => Ints w v xs) w := by
  intro w' k
  rcases h.form with ⟨rfl, rfl⟩ | ⟨g, cap, rfl, _, hg, hl, hc⟩
  · exact Ints.nil _
  · have h' := h.ints
    unfold Ints at *
    obtain ⟨a, cap', h1, h2, h3, h4, h6, h5⟩ := h'
    cases h1
    refine ⟨_, _, rfl, h2, h3, h4, h6, fun i hi => ?_⟩
    obtain ⟨b, o, hb, hcell⟩ := h5 i hi
    cases hb
    exact ⟨g, 0, rfl, cell_kp k hcell rfl⟩
theorem Ints.on_fresh {e base : Nat} {w : World} {v : Value} {xs : List Int} (h : OwnI e base w v xs) : On (fun b => base ≤ b) (fun w => Ints w v xs) w :=
  (Ints.on_own h).mono fun b _ hb => (h.lt hb).1

/-! ### kinds of elements -/
structure Kind (α : Type) where
  size : Nat
  R : World → List Value → α → Prop
  len : ∀ {w vs x}, R w vs x → vs.length = size
  one : ∀ {w vs x}, R w vs x → ∀ u ∈ vs, u.oneCell' = true
  mono : ∀ {w w' vs x}, Kp All w w' → R w vs x → R w' vs x
/-- an element that hangs on no memory -/
def flat {α : Type} (size : Nat) (cells : α → List Value) (ok : α → Prop) (h1 : ∀ x, (cells x).length = size) (h2 : ∀ x, ∀ u ∈ cells x, u.oneCell' = true) : Kind α :=
  ⟨size, fun _ vs x => vs = cells x ∧ ok x, fun h => by rw [h.1]; exact h1 _, fun h => by rw [h.1]; exact h2 _, fun _ h => h⟩
/-- rows of ints -/
def rowK : Kind (List Int) :=
  ⟨1, fun w vs x => ∃ u, vs = [u] ∧ Ints w u x, fun ⟨u, h, _⟩ => by rw [h]; rfl, fun ⟨u, h, hu⟩ => by
    subst h
    obtain ⟨a, cap, rfl, _⟩ := hu.len
    intro x hx; rw [List.mem_singleton.1 hx]; rfl, fun k ⟨u, h, hu⟩ => ⟨u, h, hu.kp k⟩⟩

section
variable {α : Type} [Inhabited α]
/-- the element at place i -/
def ix (xs : List α) (i : Nat) : α := xs.getD i default
theorem ix_lt {xs : List α} {i : Nat} (h : i < xs.length) : ix xs i = xs[i] := by simp [ix, h]
theorem ix_mem {xs : List α} {i : Nat} (h : i < xs.length) : ix xs i ∈ xs := by rw [ix_lt h]; exact List.getElem_mem h
theorem ix_some {xs : List α} {i : Nat} (h : i < xs.length) : xs[i]? = some (ix xs i) := by rw [ix_lt h]; exact List.getElem?_eq_getElem h
theorem ix_def (xs : List α) (i : Nat) : ix xs i = xs.getD i default := rfl
theorem ix_zero (a : α) (l : List α) : ix (a :: l) 0 = a := rfl
theorem ix_succ (a : α) (l : List α) (i : Nat) : ix (a :: l) (i + 1) = ix l i := by simp [ix]
theorem ix_ge {xs : List α} {i : Nat} (h : xs.length ≤ i) : ix xs i = default := by simp [ix, List.getD, List.getElem?_eq_none h]
theorem ix_take {xs : List α} {k i : Nat} (h : i < k) : ix (xs.take k) i = ix xs i := by simp [ix, List.getD, h]
theorem take_ix {xs : List α} {k : Nat} (h : k < xs.length) : xs.take (k + 1) = xs.take k ++ [ix xs k] := by rw [List.take_succ_eq_append_getElem h, ix_lt h]
theorem drop_ix {xs : List α} {k : Nat} (h : k < xs.length) : xs.drop k = ix xs k :: xs.drop (k + 1) := by rw [List.drop_eq_getElem_cons h, ix_lt h]
theorem ext_ix {xs ys : List α} (hl : xs.length = ys.length) (h : ∀ i, i < xs.length → ix xs i = ix ys i) : xs = ys := by
  apply List.ext_getElem hl
  intro i h1 h2
  have := h i h1
  rwa [ix_lt h1, ix_lt h2] at this

/-! ### rows that read -/
/-- v reads as the elements xs in w -/
def Rd (K : Kind α) (w : World) (v : Value) (xs : List α) : Prop :=
  ∃ a cap, v = .slice a xs.length cap ∧ xs.length ≤ cap ∧ cap ≤ maxLen ∧ (a = none → cap = 0) ∧
    ∀ i, i < xs.length → ∃ b o vs, a = some ⟨b, o, none⟩ ∧ K.R w vs (ix xs i) ∧ ∀ j u, vs[j]? = some u → w.cell? ⟨b, o + i * K.size + j, none⟩ = some u
variable {K : Kind α}
theorem rd_mk {w : World} {v : Value} {xs : List α} {a : Option Addr} {cap : Nat} (h1 : v = .slice a xs.length cap) (h2 : xs.length ≤ cap) (h3 : cap ≤ maxLen) (h4 : a = none → cap = 0) (h5 : ∀ i, i < xs.length → ∃ b o vs, a = some ⟨b, o, none⟩ ∧ K.R w vs (ix xs i) ∧ ∀ j u, vs[j]? = some u → w.cell? ⟨b, o + i * K.size + j, none⟩ = some u) : Rd K w v xs := ⟨a, cap, h1, h2, h3, h4, h5⟩
theorem Rd.len {w : World} {v : Value} {xs : List α} (h : Rd K w v xs) : ∃ a cap, v = .slice a xs.length cap ∧ xs.length ≤ cap ∧ cap ≤ 9223372036854775807 := by
  obtain ⟨a, cap, h1, h2, h3, _⟩ := h
  exact ⟨a, cap, h1, h2, by unfold maxLen at h3; omega⟩
theorem Rd.form {w : World} {v : Value} {xs : List α} (h : Rd K w v xs) : (v = .slice none 0 0 ∧ xs = []) ∨ ∃ ad cap, v = .slice (some ad) xs.length cap ∧ xs.length ≤ cap ∧ cap ≤ 9223372036854775807 := by
  obtain ⟨a, cap, h1, h2, h3, h6, _⟩ := h
  cases a with
  | none =>
    have := h6 rfl
    subst this
    have h0 : xs = [] := List.eq_nil_of_length_eq_zero (by omega)
    subst h0
    exact .inl ⟨h1, rfl⟩
  | some ad => exact .inr ⟨ad, cap, h1, h2, by unfold maxLen at h3; omega⟩
theorem Rd.at_ {w : World} {a : Option Addr} {n cap : Nat} {xs : List α} (h : Rd K w (.slice a n cap) xs) {i : Nat} (hi : i < xs.length) :
    ∃ b o vs, a = some ⟨b, o, none⟩ ∧ K.R w vs (ix xs i) ∧ ∀ j u, vs[j]? = some u → w.cell? ⟨b, o + i * K.size + j, none⟩ = some u := by
  obtain ⟨a', cap', h1, h2, h3, h4, h5⟩ := h
  cases h1
  exact h5 i hi
theorem Rd.nil (w : World) : Rd K w (.slice none 0 0) [] := ⟨none, 0, rfl, Nat.le_refl _, by unfold maxLen; omega, fun _ => rfl, fun i hi => by simp at hi⟩
theorem Rd.kp {w w' : World} {v : Value} {xs : List α} (h : Rd K w v xs) (k : Kp All w w') : Rd K w' v xs := by
  obtain ⟨a, cap, h1, h2, h3, h4, h5⟩ := h
  refine ⟨a, cap, h1, h2, h3, h4, fun i hi => ?_⟩
  obtain ⟨b, o, vs, ha, hr, hc⟩ := h5 i hi
  exact ⟨b, o, vs, ha, K.mono k hr, fun j u hj => cell_kp k (hc j u hj) trivial⟩
theorem Rd.gr {w w' : World} {v : Value} {xs : List α} (h : Rd K w v xs) (g : Gr w w') : Rd K w' v xs := h.kp g.kp
theorem Rd.alloc {w : World} {v : Value} {xs : List α} (h : Rd K w v xs) (o : Obj) : Rd K (w.alloc o) v xs := h.gr ((Gr.refl _).alloc o)
theorem Rd.drew {w : World} {v : Value} {xs : List α} (h : Rd K w v xs) : Rd K w.drew v xs := h.gr ((Gr.refl _).drew)

theorem Rd.sub {w : World} {b o n cap : Nat} {xs : List α} (h : Rd K w (.slice (some ⟨b, o, none⟩) n cap) xs) {i m c o' : Nat} (him : i + m ≤ xs.length) (hm : m ≤ c) (hc : c ≤ 9223372036854775807) (ho : o' = o + i * K.size) :
    Rd K w (.slice (some ⟨b, o', none⟩) m c) ((xs.drop i).take m) := by
  have hl : ((xs.drop i).take m).length = m := by rw [List.length_take, List.length_drop]; omega
  refine ⟨some ⟨b, o', none⟩, c, by rw [hl], by omega, by unfold maxLen; omega, (fun h => by cases h), fun j hj => ?_⟩
  rw [hl] at hj
  obtain ⟨b', o2, vs, hb, hr, hcell⟩ := h.at_ (show i + j < xs.length by omega)
  cases hb
  refine ⟨b, o', vs, rfl, ?_, fun q u hq => ?_⟩
  · have : ix ((xs.drop i).take m) j = ix xs (i + j) := by
      rw [ix_lt (by rw [hl]; exact hj), ix_lt (by omega)]; simp
    rw [this]; exact hr
  · have := hcell q u hq
    rw [ho, show o + i * K.size + j * K.size + q = o + (i + j) * K.size + q by rw [Nat.add_mul]; omega]
    exact this
theorem Rd.take {w : World} {a : Option Addr} {n cap m : Nat} {xs : List α} (h : Rd K w (.slice a n cap) xs) (hm : m ≤ xs.length) : Rd K w (.slice a m cap) (xs.take m) := by
  obtain ⟨a', cap', h1, h2, h3, h4, h5⟩ := h
  cases h1
  have hl : (xs.take m).length = m := by rw [List.length_take]; omega
  refine ⟨a, cap, by rw [hl], by omega, h3, h4, fun i hi => ?_⟩
  rw [hl] at hi
  rw [ix_take hi]
  exact h5 i (by omega)
end
/-! ### rows of the call's own -/
section
variable {α : Type} {K : Kind α}
structure KTy (P : Program) (t e : TypeId) (K : Kind α) (bytes : Nat) (z : Value) : Prop where
  und : P.underlying t = some (.slice e)
  info : (P.info? e).map (fun i => (i.zero, i.size, i.bytes)) = some (some z, K.size, bytes)
  zs : z.cells.size = K.size
  pos : 0 < K.size

def cellsOf (rows : List (α × List Value)) : List Value := rows.flatMap (·.2)
/-- v is a row of the call's own (a block from base on); its elements hang on blocks of S, and not on the row's own -/
def OwnR (K : Kind α) (e base : Nat) (S : Nat → Prop) (w : World) (v : Value) (xs : List α) : Prop :=
  ∃ rows : List (α × List Value), xs = rows.map (·.1) ∧ w.ownsRow base e K.size v rows.length (cellsOf rows) ∧ ∀ r ∈ rows, On (fun b => S b ∧ v.ownBlock ≠ some b) (fun w => K.R w r.2 r.1) w
variable {e base : Nat} {S : Nat → Prop} {w : World} {v : Value} {xs : List α}
theorem OwnR.nil (e base : Nat) (S : Nat → Prop) (w : World) : OwnR K e base S w (.slice none 0 0) ([] : List α) := ⟨[], rfl, World.ownsRow_nil w base e _, by simp⟩
theorem OwnR.empty (h : w.ownsRow base e K.size v 0 []) : OwnR K e base S w v ([] : List α) := ⟨[], rfl, h, by simp⟩
theorem OwnR.lt (h : OwnR K e base S w v xs) {k : Nat} (hk : v.ownBlock = some k) : base ≤ k ∧ k < w.heap.size := by
  obtain ⟨rows, _, hr, _⟩ := h
  exact hr.lt k hk
theorem OwnR.form (h : OwnR K e base S w v xs) : (v = .slice none 0 0 ∧ xs = []) ∨ ∃ g cap, v = .slice (some ⟨g, 0, none⟩) xs.length cap ∧ base ≤ g ∧ g < w.heap.size ∧ xs.length ≤ cap ∧ cap ≤ 9223372036854775807 := by
  obtain ⟨rows, rfl, hr, _⟩ := h
  rcases hr.2 with ⟨h1, h2⟩ | ⟨g, cap, cur, h1, h2, h3, h4, h5, _⟩
  · exact .inl ⟨h1, by rw [List.eq_nil_of_length_eq_zero h2]; rfl⟩
  · exact .inr ⟨g, cap, by rw [List.length_map]; exact h1, h2, (Array.getElem?_eq_some_iff.1 h3).1, by rw [List.length_map]; exact h4, by unfold maxLen at h5; omega⟩
theorem OwnR.len (h : OwnR K e base S w v xs) : ∃ a cap, v = .slice a xs.length cap ∧ xs.length ≤ cap ∧ cap ≤ 9223372036854775807 := by
  rcases h.form with ⟨rfl, rfl⟩ | ⟨g, cap, h1, _, _, h2, h3⟩
  · exact ⟨none, 0, rfl, Nat.le_refl _, by omega⟩
  · exact ⟨_, cap, h1, h2, h3⟩
theorem OwnR.gr {w' : World} (h : OwnR K e base S w v xs) (g : Gr w w') : OwnR K e base S w' v xs := by
  obtain ⟨rows, h1, h2, h3⟩ := h
  exact ⟨rows, h1, ownsRow_below h2 g.below, fun r hr => (h3 r hr).gr g⟩
theorem OwnR.alloc (h : OwnR K e base S w v xs) (o : Obj) : OwnR K e base S (w.alloc o) v xs := h.gr ((Gr.refl _).alloc o)
theorem OwnR.drew (h : OwnR K e base S w v xs) : OwnR K e base S w.drew v xs := h.gr ((Gr.refl _).drew)
theorem OwnR.sets {S' : Nat → Prop} (h : OwnR K e base S w v xs) (hs : ∀ b, b < w.heap.size → S b → S' b) : OwnR K e base S' w v xs := by
  obtain ⟨rows, h1, h2, h3⟩ := h
  exact ⟨rows, h1, h2, fun r hr => (h3 r hr).mono fun b hb h => ⟨hs b hb h.1, h.2⟩⟩
theorem OwnR.low {base' : Nat} (h : OwnR K e base S w v xs) (hb : base' ≤ base) : OwnR K e base' S w v xs := by
  obtain ⟨rows, h1, h2, h3⟩ := h
  refine ⟨rows, h1, ⟨h2.1, ?_⟩, h3⟩
  rcases h2.2 with h4 | ⟨g, cap, cur, h4, h5, h6⟩
  · exact .inl h4
  · exact .inr ⟨g, cap, cur, h4, Nat.le_trans hb h5, h6⟩
/-- another row was written: its block lies outside S -/
theorem OwnR.kept {S' : Nat → Prop} {w' : World} {row : Option Nat} (h : OwnR K e base S w v xs) (hg : w.grownBy w' row) (hne : v.ownBlock = none ∨ v.ownBlock ≠ row) (hS : ∀ b, b < w.heap.size → S b → S' b ∧ some b ≠ row) : OwnR K e base S' w' v xs := by
  obtain ⟨rows, h1, h2, h3⟩ := h
  refine ⟨rows, h1, h2.kept hg hne, fun r hr => (h3 r hr).moved hg.size fun b hb hs => ?_⟩
  obtain ⟨h4, h5⟩ := hS b hb hs.1
  exact ⟨⟨h4, hs.2⟩, hg.block b hb h5⟩
theorem OwnR.other (h : OwnR K e base S w v xs) {a : Addr} (ha : v.ownBlock ≠ some a.block) (hS : ¬ S a.block) (u : Value) : OwnR K e base S (w.setCell a u) v xs :=
  h.kept (row := some a.block) ⟨rfl, rfl, rfl, by simp [World.setCell], fun k hk hne => Below.heap_setCell _ _ _ _ (by intro h; subst h; exact hne rfl)⟩ (.inr ha) (fun b _ hb => ⟨hb, fun e => hS (by cases e; exact hb)⟩)

theorem cellsOf_at {n : Nat} : ∀ {rows : List (α × List Value)} {i j : Nat}, (∀ r ∈ rows, r.2.length = n) → i < rows.length → j < n → (cellsOf rows)[i * n + j]? = (rows[i]?.bind fun r => r.2[j]?) := by
  intro rows
  induction rows with
  | nil => intro i j _ hi; simp at hi
  | cons r rest ih =>
    intro i j hall hi hj
    have hr := hall r (by simp)
    have e : cellsOf (r :: rest) = r.2 ++ cellsOf rest := by simp [cellsOf]
    rw [e]
    cases i with
    | zero => rw [List.getElem?_append_left (by omega)]; simp
    | succ i =>
      rw [List.getElem?_append_right (by rw [hr, Nat.add_mul]; omega), hr, show (i + 1) * n + j - n = i * n + j by rw [Nat.add_mul]; omega, ih (fun r' hr' => hall r' (by simp [hr'])) (by simpa using hi) hj]
      simp
theorem OwnR.at_ [Inhabited α] {g n cap : Nat} (h : OwnR K e base S w (.slice (some ⟨g, 0, none⟩) n cap) xs) {i : Nat} (hi : i < xs.length) :
    ∃ vs, On (fun b => S b ∧ b ≠ g) (fun w => K.R w vs (ix xs i)) w ∧ ∀ j u, vs[j]? = some u → w.cell? ⟨g, i * K.size + j, none⟩ = some u := by
  obtain ⟨rows, rfl, hr, hall⟩ := h
  have hlen : ∀ r ∈ rows, r.2.length = K.size := fun r hr => K.len (hall r hr).now
  have hi' : i < rows.length := by simpa using hi
  have hn : n = rows.length := by
    rcases hr.2 with ⟨h1, _⟩ | ⟨_, _, _, h1, _⟩
    · cases h1
    · cases h1; rfl
  subst hn
  refine ⟨rows[i].2, ?_, fun j u hj => ?_⟩
  · have := hall rows[i] (List.getElem_mem hi')
    rw [ix_lt hi, List.getElem_map]
    exact this.mono fun b _ hb => ⟨hb.1, fun e => hb.2 (by rw [e]; rfl)⟩
  · have hj' : j < K.size := by
      have := (List.getElem?_eq_some_iff.1 hj).1
      rwa [hlen _ (List.getElem_mem hi')] at this
    have hb : i * K.size + j < rows.length * K.size := by
      have : (i + 1) * K.size ≤ rows.length * K.size := Nat.mul_le_mul_right _ hi'
      rw [Nat.add_mul] at this; omega
    rw [hr.cellAt _ hb, cellsOf_at hlen hi' hj']
    simp [hi', hj]
theorem OwnR.frozen {g n cap : Nat} (h : OwnR K e base S w (.slice (some ⟨g, 0, none⟩) n cap) xs) (i : Nat) : w.frozen? ⟨g, i, none⟩ = false := by
  obtain ⟨rows, _, hr, _⟩ := h
  have hn : n = rows.length := by
    rcases hr.2 with ⟨h1, _⟩ | ⟨_, _, _, h1, _⟩
    · cases h1
    · cases h1; rfl
  subst hn
  exact hr.frozenAt i
theorem cellsOf_set {rows : List (α × List Value)} : ∀ {i : Nat} {x : α} {u : Value}, (∀ r ∈ rows, r.2.length = 1) → cellsOf (rows.set i (x, [u])) = (cellsOf rows).set i u := by
  induction rows with
  | nil => intro i x u _; simp [cellsOf]
  | cons r rest ih =>
    intro i x u hall
    have hr := hall r (by simp)
    obtain ⟨q, hq⟩ : ∃ q, r.2 = [q] := List.length_eq_one_iff.1 hr
    have e : ∀ r : α × List Value, ∀ rest, cellsOf (r :: rest) = r.2 ++ cellsOf rest := fun r rest => by simp [cellsOf]
    cases i with
    | zero => rw [List.set_cons_zero, e, e, hq]; rfl
    | succ i => rw [List.set_cons_succ, e, e, hq, ih (fun r' h => hall r' (by simp [h]))]; rfl
theorem own_eq {g n cap b : Nat} (e : (Value.slice (some ⟨g, 0, none⟩) n cap).ownBlock = some b) : b = g := by
  have : g = b := by simpa [Value.ownBlock] using e
  exact this.symm
/-- a store into a row whose elements are of one cell -/
theorem OwnR.set1 (hK : K.size = 1) {g n cap : Nat} (h : OwnR K e base S w (.slice (some ⟨g, 0, none⟩) n cap) xs) (i : Nat) {u : Value} {x : α} (hx : On (fun b => S b ∧ b ≠ g) (fun w => K.R w [u] x) w) :
    OwnR K e base S (w.setCell ⟨g, i, none⟩ u) (.slice (some ⟨g, 0, none⟩) n cap) (xs.set i x) := by
  obtain ⟨rows, rfl, hr, hall⟩ := h
  have hlen : ∀ r ∈ rows, r.2.length = 1 := fun r hr => by rw [K.len (hall r hr).now, hK]
  have hn : n = rows.length := by
    rcases hr.2 with ⟨h1, _⟩ | ⟨_, _, _, h1, _⟩
    · cases h1
    · cases h1; rfl
  subst hn
  refine ⟨rows.set i (x, [u]), by rw [List.map_set], ?_, fun r hr' => ?_⟩
  · rw [List.length_set, cellsOf_set hlen]
    exact (hr.stored i u).1
  · have hk : ∀ {p : World → Prop}, On (fun b => S b ∧ b ≠ g) p w → On (fun b => S b ∧ (Value.slice (some ⟨g, 0, none⟩) rows.length cap).ownBlock ≠ some b) p (w.setCell ⟨g, i, none⟩ u) := by
      intro p hp
      refine hp.moved (by simp [World.setCell]) fun b hb hs => ⟨⟨hs.1, fun e => hs.2 (own_eq e)⟩, Below.heap_setCell w _ u b hs.2⟩
    rcases List.mem_or_eq_of_mem_set hr' with h1 | h1
    · exact hk ((hall r h1).mono fun b _ hb => ⟨hb.1, fun e => hb.2 (by rw [e]; rfl)⟩)
    · rw [h1]; exact hk hx
/-- what it reads as hangs on the row and on S -/
theorem OwnR.on [Inhabited α] {S' : Nat → Prop} (h : OwnR K e base S w v xs) (hS : ∀ b, b < w.heap.size → S b → S' b) (hv : ∀ b, v.ownBlock = some b → S' b) : On S' (fun w => Rd K w v xs) w := by
  intro w' k
  rcases h.form with ⟨rfl, rfl⟩ | ⟨g, cap, rfl, _, hg, hl, hc⟩
  · exact Rd.nil _
  · refine ⟨_, cap, rfl, hl, by unfold maxLen; omega, (fun h => by cases h), fun i hi => ?_⟩
    obtain ⟨vs, h1, h2⟩ := h.at_ hi
    refine ⟨g, 0, vs, rfl, ?_, fun j u hj => ?_⟩
    · exact h1 w' (k.mono fun b hb hb' => hS b hb hb'.1)
    · rw [Nat.zero_add]
      exact cell_kp k (h2 j u hj) (hv g rfl)
theorem OwnR.rd [Inhabited α] (h : OwnR K e base S w v xs) : Rd K w v xs := (h.on (S' := All) (fun _ _ _ => trivial) (fun _ _ => trivial)).now
theorem OwnR.fresh [Inhabited α] (h : OwnR K e base S w v xs) (hS : ∀ b, b < w.heap.size → S b → base ≤ b) : On (fun b => base ≤ b) (fun w => Rd K w v xs) w :=
  h.on hS fun b hb => (h.lt hb).1
/-- a literal that was laid last -/
theorem OwnR.lit {H n m : Nat} {cs : Array Value} (rows : List (α × List Value)) (hx : xs = rows.map (·.1)) (hH : w.heap.size = H) (hn : n = xs.length) (hm : m = xs.length) (hcs : cs.toList = cellsOf rows) (hl : xs.length ≤ 1000) (hb : base ≤ w.heap.size)
    (hS : ∀ r ∈ rows, On (fun b => S b ∧ b ≠ H) (fun w => K.R w r.2 r.1) w) : OwnR K e base S (w.alloc (.cells cs e)) (.slice (some ⟨H, 0, none⟩) n m) xs := by
  subst hH hn hm hx
  have hlen : ∀ r ∈ rows, r.2.length = K.size := fun r hr => K.len (hS r hr).now
  have hsz : (cellsOf rows).length = rows.length * K.size := by
    clear hcs hl hS hb
    induction rows with
    | nil => simp [cellsOf]
    | cons r rest ih =>
      have e : cellsOf (r :: rest) = r.2 ++ cellsOf rest := by simp [cellsOf]
      rw [e, List.length_append, ih (fun r' hr' => hlen r' (by simp [hr'])), hlen r (by simp), List.length_cons, Nat.add_mul]; omega
  refine ⟨rows, rfl, ⟨hsz, .inr ⟨w.heap.size, rows.length, cs, by simp, hb, heap_alloc_new w _, Nat.le_refl _, by unfold maxLen; rw [List.length_map] at hl; omega, ?_, ?_⟩⟩, fun r hr => ?_⟩
  · rw [← Array.length_toList, hcs, hsz]
  · rw [hcs, List.take_of_length_le (by omega)]
  · refine ((hS r hr).gr ((Gr.refl _).alloc _)).mono fun b _ hb' => ⟨hb'.1, fun e => hb'.2 ?_⟩
    have : w.heap.size = b := by simpa [Value.ownBlock] using e
    exact this.symm
end

/-! ### appends -/
section
variable {α : Type} {K : Kind α} {P : Program} {t e : TypeId} {bytes : Nat} {z : Value}
theorem grown_own {S : Nat → Prop} {base : Nat} {w w' : World} {v v' : Value} {rows : List (α × List Value)} {x : α} {vs : List Value} (ho' : w'.ownsRow base e K.size v' (rows.length + 1) (cellsOf rows ++ vs)) (hall : ∀ r ∈ rows, On (fun b => S b ∧ v.ownBlock ≠ some b) (fun w => K.R w r.2 r.1) w)
    (hx : On (fun b => S b ∧ v.ownBlock ≠ some b) (fun w => K.R w vs x) w) (hg : w.grownBy w' v.ownBlock) (hat : v'.ownBlock = v.ownBlock ∨ v'.ownBlock = some w.heap.size) : OwnR K e base S w' v' (rows.map (·.1) ++ [x]) := by
  refine ⟨rows ++ [(x, vs)], by simp, by rw [List.length_append, show cellsOf (rows ++ [(x, vs)]) = cellsOf rows ++ vs by simp [cellsOf]]; exact ho', fun r hr => ?_⟩
  have key : On (fun b => S b ∧ v.ownBlock ≠ some b) (fun w => K.R w r.2 r.1) w := by
    rcases List.mem_append.1 hr with h | h
    · exact hall r h
    · rw [List.mem_singleton.1 h]; exact hx
  refine key.moved hg.size fun b hb hs => ⟨⟨hs.1, ?_⟩, hg.block b hb (fun e => hs.2 e.symm)⟩
  rcases hat with h | h
  · rw [h]; exact hs.2
  · rw [h]; intro e; have : w.heap.size = b := by simpa using e
    omega

/-- 'append(out, x)' -/
theorem app_one (T : KTy P t e K bytes z) {w : World} {ops : Array Oper} {rest : List Oper} {o : Oper} {a : Act} {Q : Exit → Act → World → Prop} (s x : Operand)
    (base : Nat) (S : Nat → Prop) (v : Value) (xs : List α) (ad : Addr) (y : α) (vs : List Value) (hg : o.guard = none) (hop : o.op = .call { callee := .builtin .append, args := #[s, x], argTypes := #[t, t] }) (hs : a.eval s = v) (hx : a.eval x = .slice (some ad) 1 1)
    (hown : OwnR K e base S w v xs) (hcell : ∀ j u, vs[j]? = some u → w.cell? (ad.add j) = some u) (hy : On (fun b => S b ∧ v.ownBlock ≠ some b) (fun w => K.R w vs y) w) (hn : (xs.length + 1) * bytes ≤ 140737488355328) (hn' : xs.length + 1 ≤ maxLen) (hbase : base ≤ w.heap.size)
    (hK : ∀ v' w', OwnR K e base S w' v' (xs ++ [y]) → (∀ a : World, a.heap.size ≤ base → Gr a w → Gr a w') → w.grownBy w' v.ownBlock → (v'.ownBlock = v.ownBlock ∨ v'.ownBlock = some w.heap.size) → wpList P ops Q rest (a.put o.dst v') w') : wpList P ops Q (o :: rest) a w := by
  obtain ⟨i, hi, hz, hsz, hb⟩ := info_parts T.info
  obtain ⟨rows, rfl, hr, hall⟩ := hown
  rw [List.length_map] at hn hn'
  refine wpList_append_own_at w hg s x t hop base e i z K.size bytes T.und hi hz hsz hb T.zs T.pos v rows.length _ hs hr ad 1 1 vs hx (by rw [K.len hy.now]; simp) hcell (K.one hy.now) hn' hn hbase ?_
  intro v' w' ho' hgr _ hat
  exact hK v' w' (grown_own ho' hall hy hgr hat) (fun a hB hb => hb.grown hgr fun k hk => Nat.le_trans hB (hr.lt k hk).1) hgr hat

theorem step_app_one (T : KTy P t e K bytes z) {ops : Array Oper} {o : Oper} {a : Act} {w : World} {KK : Act → World → Prop} {Q : Exit → Act → World → Prop} {E : Prop} (hgd : o.guard = none) (s x : Operand)
    (ho : o.op = .call { callee := .builtin .append, args := #[s, x], argTypes := #[t, t] }) (base : Nat) (S : Nat → Prop) (v : Value) (xs : List α) (ad : Addr) (y : α) (vs : List Value) (hs : a.eval s = v) (hx : a.eval x = .slice (some ad) 1 1)
    (hown : OwnR K e base S w v xs) (hcell : ∀ j u, vs[j]? = some u → w.cell? (ad.add j) = some u) (hy : On (fun b => S b ∧ v.ownBlock ≠ some b) (fun w => K.R w vs y) w) (hn : (xs.length + 1) * bytes ≤ 140737488355328) (hn' : xs.length + 1 ≤ maxLen) (hbase : base ≤ w.heap.size)
    (hK : ∀ g cap w', OwnR K e base S w' (.slice (some ⟨g, 0, none⟩) (xs.length + 1) cap) (xs ++ [y]) → (∀ a : World, a.heap.size ≤ base → Gr a w → Gr a w') → w.grownBy w' v.ownBlock → (v.ownBlock = some g ∨ g = w.heap.size) → g < w'.heap.size → KK (a.put o.dst (.slice (some ⟨g, 0, none⟩) (xs.length + 1) cap)) w') :
    if Region.wanted o (yielded ops a.tmps) = true then Oper.wp P o a w KK Q else E := by
  obtain ⟨i, hi, hz, hsz, hb⟩ := info_parts T.info
  obtain ⟨rows, rfl, hr, hall⟩ := hown
  rw [List.length_map] at hn hn' hK
  refine step_append_lies w hgd s x t ho base e i z K.size bytes T.und hi hz hsz hb T.zs T.pos v rows.length _ hs hr ad 1 1 vs hx (by rw [K.len hy.now]; simp) hcell (K.one hy.now) (by omega) hn' hn hbase w.heap.size rfl ?_
  intro g cap w' ho' hgr hat hlt
  exact hK g cap w' (grown_own ho' hall hy hgr (hat.imp (fun h => by rw [h]; rfl) (fun h => by rw [h]; rfl))) (fun a hB hb => hb.grown hgr fun k hk => Nat.le_trans hB (hr.lt k hk).1) hgr hat hlt

theorem flatten_zip {α : Type} : ∀ (ys : List α) (vss : List (List Value)), vss.length ≤ ys.length → (ys.zip vss).flatMap (·.2) = vss.flatten
  | _, [], _ => by simp
  | [], _ :: _, h => by simp at h
  | y :: ys, v :: vss, h => by simp at h; simp [flatten_zip ys vss h]
/-- 'append(out, ys...)', elements that hang on no memory of the row's -/
theorem app_many [Inhabited α] (T : KTy P t e K bytes z) {w : World} {ops : Array Oper} {rest : List Oper} {o : Oper} {a : Act} {Q : Exit → Act → World → Prop} (s x : Operand)
    (base : Nat) (S : Nat → Prop) (v u : Value) (xs ys : List α) (vss : List (List Value)) (hg : o.guard = none) (hop : o.op = .call { callee := .builtin .append, args := #[s, x], argTypes := #[t, t] }) (hs : a.eval s = v) (hx : a.eval x = u) (hown : OwnR K e base S w v xs) (hsrc : Rd K w u ys)
    (hl : vss.length = ys.length) (hcell : ∀ ad n c, u = .slice (some ad) n c → ∀ j x, vss.flatten[j]? = some x → w.cell? (ad.add j) = some x) (hy : ∀ i, i < ys.length → On (fun b => S b ∧ v.ownBlock ≠ some b) (fun w => K.R w (vss.getD i []) (ix ys i)) w)
    (hn : (xs.length + ys.length) * bytes ≤ 140737488355328) (hn' : xs.length + ys.length ≤ maxLen) (hbase : base ≤ w.heap.size)
    (hK : ∀ v' w', OwnR K e base S w' v' (xs ++ ys) → (∀ a : World, a.heap.size ≤ base → Gr a w → Gr a w') → w.grownBy w' v.ownBlock → (v'.ownBlock = v.ownBlock ∨ v'.ownBlock = some w.heap.size) → wpList P ops Q rest (a.put o.dst v') w') : wpList P ops Q (o :: rest) a w := by
  obtain ⟨i, hi, hz, hsz, hb⟩ := info_parts T.info
  rcases hsrc.form with ⟨rfl, rfl⟩ | ⟨ad, cap, rfl, hl1, hl2⟩
  · obtain ⟨rows, rfl, hr, hall⟩ := hown
    refine wpList_append_own_none hg s x t hop base e i K.size T.und hi v rows.length _ hs hr hx ?_
    exact hK v w ⟨rows, by simp, hr, hall⟩ (fun _ _ h => h) ⟨rfl, rfl, rfl, Nat.le_refl _, fun _ _ _ => rfl⟩ (.inl rfl)
  · obtain ⟨rows, rfl, hr, hall⟩ := hown
    rw [List.length_map] at hn hn'
    have hlen : ∀ vs ∈ vss, vs.length = K.size := by
      intro vs hvs
      obtain ⟨j, hj, rfl⟩ := List.getElem_of_mem hvs
      have := K.len (hy j (by omega)).now
      simpa [hj] using this
    have hfl : vss.flatten.length = ys.length * K.size := by
      rw [← hl]
      clear hcell hy hl
      induction vss with
      | nil => simp
      | cons a r ih => rw [List.flatten_cons, List.length_append, ih (fun vs h => hlen vs (by simp [h])), hlen a (by simp), List.length_cons, Nat.add_mul]; omega
    have hone : ∀ u ∈ vss.flatten, u.oneCell' = true := by
      intro u hu
      obtain ⟨vs, hvs, hu⟩ := List.mem_flatten.1 hu
      obtain ⟨j, hj, rfl⟩ := List.getElem_of_mem hvs
      have := K.one (hy j (by omega)).now u
      simp [hj] at this
      exact this hu
    refine wpList_append_own_at w hg s x t hop base e i z K.size bytes T.und hi hz hsz hb T.zs T.pos v rows.length _ hs hr ad ys.length cap vss.flatten hx hfl (hcell ad _ _ rfl) hone hn' hn hbase ?_
    intro v' w' ho' hgr _ hat
    refine hK v' w' ⟨rows ++ ys.zip vss, ?_, ?_, ?_⟩ (fun a hB hb => hb.grown hgr fun k hk => Nat.le_trans hB (hr.lt k hk).1) hgr hat
    · rw [List.map_append, List.map_fst_zip (by omega)]
    · rw [List.length_append, List.length_zip, hl, Nat.min_self]
      have : cellsOf (rows ++ ys.zip vss) = cellsOf rows ++ vss.flatten := by
        unfold cellsOf
        rw [List.flatMap_append]
        congr 1
        exact flatten_zip _ _ (by omega)
      rw [this]; exact ho'
    · intro r hr'
      have key : On (fun b => S b ∧ v.ownBlock ≠ some b) (fun w => K.R w r.2 r.1) w := by
        rcases List.mem_append.1 hr' with h | h
        · exact hall r h
        · obtain ⟨j, hj, rfl⟩ := List.getElem_of_mem h
          rw [List.length_zip] at hj
          have := hy j (by omega)
          rw [ix_lt (by omega)] at this
          have hj2 : j < vss.length := by omega
          simpa [hj2] using this
      refine key.moved hgr.size fun b hb hs => ⟨⟨hs.1, ?_⟩, hgr.block b hb (fun e => hs.2 e.symm)⟩
      rcases hat with h | h
      · rw [h]; exact hs.2
      · rw [h]; intro e; have : w.heap.size = b := by simpa using e
        omega
end
theorem add_none (b o j : Nat) : (⟨b, o, none⟩ : Addr).add j = ⟨b, o + j, none⟩ := by unfold Addr.add; split <;> simp_all
theorem Rd.flat_cells {α : Type} [Inhabited α] {size : Nat} {cells : α → List Value} {ok : α → Prop} {h1 : ∀ x, (cells x).length = size} {h2 : ∀ x, ∀ u ∈ cells x, u.oneCell' = true} {w : World} {ad : Addr} {n c : Nat} {ys : List α} (h : Rd (flat size cells ok h1 h2) w (.slice (some ad) n c) ys) (hp : 0 < size) :
    ∀ j x, (ys.map cells).flatten[j]? = some x → w.cell? (ad.add j) = some x := by
  intro j x hj
  have hfl : ∀ zs : List α, (zs.map cells).flatten.length = zs.length * size := by
    intro zs
    induction zs with
    | nil => simp
    | cons z r ih => rw [List.map_cons, List.flatten_cons, List.length_append, ih, h1, List.length_cons, Nat.add_mul]; omega
  have hjl : j < ys.length * size := by rw [← hfl]; exact (List.getElem?_eq_some_iff.1 hj).1
  have hi : j / size < ys.length := Nat.div_lt_of_lt_mul (by rw [Nat.mul_comm]; exact hjl)
  have hq : j % size < size := Nat.mod_lt _ hp
  have hjd : j / size * size + j % size = j := by rw [Nat.mul_comm]; exact Nat.div_add_mod j size
  obtain ⟨b, o, vs, ha, ⟨rfl, _⟩, hc⟩ := h.at_ hi
  cases ha
  have e : (ys.map cells).flatten = cellsOf (ys.map fun y => (y, cells y)) := by
    unfold cellsOf
    rw [List.flatMap_map, List.flatMap_def]
  rw [e, ← hjd, cellsOf_at (n := size) (fun r hr => by obtain ⟨y, _, rfl⟩ := List.mem_map.1 hr; exact h1 y) (by simpa using hi) hq] at hj
  have hj' : (cells (ix ys (j / size)))[j % size]? = some x := by
    rw [ix_lt hi]
    simpa [hi] using hj
  have := hc _ _ hj'
  rw [add_none]
  rw [show o + j = o + j / size * size + j % size by omega]
  exact this
/-- 'append(out, ys...)' of elements that hang on no memory -/
theorem app_flat {α : Type} [Inhabited α] {size : Nat} {cells : α → List Value} {ok : α → Prop} {h1 : ∀ x, (cells x).length = size} {h2 : ∀ x, ∀ u ∈ cells x, u.oneCell' = true} {P : Program} {t e : TypeId} {bytes : Nat} {z : Value}
    (T : KTy P t e (flat size cells ok h1 h2) bytes z) {w : World} {ops : Array Oper} {rest : List Oper} {o : Oper} {a : Act} {Q : Exit → Act → World → Prop} (s x : Operand)
    (base : Nat) (S : Nat → Prop) (v u : Value) (xs ys : List α) (hg : o.guard = none) (hop : o.op = .call { callee := .builtin .append, args := #[s, x], argTypes := #[t, t] }) (hs : a.eval s = v) (hx : a.eval x = u) (hown : OwnR (flat size cells ok h1 h2) e base S w v xs) (hsrc : Rd (flat size cells ok h1 h2) w u ys)
    (hok : ∀ y ∈ ys, ok y) (hn : (xs.length + ys.length) * bytes ≤ 140737488355328) (hn' : xs.length + ys.length ≤ maxLen) (hbase : base ≤ w.heap.size)
    (hK : ∀ v' w', OwnR (flat size cells ok h1 h2) e base S w' v' (xs ++ ys) → (∀ a : World, a.heap.size ≤ base → Gr a w → Gr a w') → w.grownBy w' v.ownBlock → (v'.ownBlock = v.ownBlock ∨ v'.ownBlock = some w.heap.size) → wpList P ops Q rest (a.put o.dst v') w') : wpList P ops Q (o :: rest) a w :=
  app_many T s x base S v u xs ys (ys.map cells) hg hop hs hx hown hsrc (by simp) (fun ad n c hu j y hj => by subst hu; exact hsrc.flat_cells T.pos j y hj)
    (fun i hi => On.true (p := (ys.map cells).getD i [] = cells (ix ys i) ∧ ok (ix ys i)) ⟨by rw [ix_lt hi]; simp [hi], hok _ (ix_mem hi)⟩) hn hn' hbase hK
attribute [irreducible] ix Rd OwnR On Kp
end Go.Tok
