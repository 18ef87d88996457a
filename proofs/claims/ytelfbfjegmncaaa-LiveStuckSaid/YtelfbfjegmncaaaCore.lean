/- The vocabulary that all texts of this family share: how ints, slices of ints stand in memory; plain functions on lists. No program is in sight here. -/
import Derived.WalkKit
import Derived.WalkLawsBesides
import Derived.WalkSpells
import Derived.Lib.Hide
import Derived.Shelf.Abstract
import Derived.Maps.AppendAt
import Derived.Laws.AppendOwnNone
namespace Go.Tok
open Go.RowKit

/-- the element at place p, 0 beyond the end -/
def nth (xs : List Int) (p : Nat) : Int := xs.getD p 0

theorem nth_lt {xs : List Int} {p : Nat} (h : p < xs.length) : nth xs p = xs[p] := by simp [nth, h]
theorem nth_ge {xs : List Int} {p : Nat} (h : xs.length ≤ p) : nth xs p = 0 := by simp [nth, List.getD, List.getElem?_eq_none h]


def I64 (x : Int) : Prop := -9223372036854775808 ≤ x ∧ x ≤ 9223372036854775807

/-! ### a later world: all that lay in w lies unturned -/
def Gr (w w' : World) : Prop := Below w.heap.size w w'
theorem Gr.refl (w : World) : Gr w w := Below.refl _ _
theorem Gr.trans {a b c : World} (h : Gr a b) (k : Gr b c) : Gr a c := Below.trans h (Below.mono k h.size)
theorem Gr.alloc {a b : World} (h : Gr a b) (o : Obj) : Gr a (b.alloc o) := Below.alloc h h.size o
theorem Gr.drew {a b : World} (h : Gr a b) : Gr a b.drew := Below.drew h
theorem Gr.drewN {a b : World} (h : Gr a b) (q : Nat) : Gr a (b.drewN q) := ⟨h.os, h.tape, h.output, h.size, h.block⟩
theorem Gr.setCell {a b : World} (h : Gr a b) {p : Addr} (hp : a.heap.size ≤ p.block) (u : Value) : Gr a (b.setCell p u) := Below.setCell h hp u
theorem Gr.grown {a b c : World} {row : Option Nat} (h : Gr a b) (hg : b.grownBy c row) (hr : ∀ k, row = some k → a.heap.size ≤ k) : Gr a c := Below.grown h hg h.size hr
theorem Gr.below {a b : World} (h : Gr a b) : Below a.heap.size a b := h
theorem Gr.le {a b : World} (h : Gr a b) : a.heap.size ≤ b.heap.size := h.size

theorem cell_gr {w w' : World} {a : Addr} {v : Value} (h : w.cell? a = some v) (g : Gr w w') : w'.cell? a = some v := by
  have hb : a.block < w.heap.size := by
    unfold World.cell? at h
    split at h
    · rename_i c e f hb
      rcases Nat.lt_or_ge a.block w.heap.size with hl | hl
      · exact hl
      · rw [Array.getElem?_eq_none hl] at hb; cases hb
    · cases h
  exact (g.below.cell (p := a) hb).trans h
/-- a box that was laid, and what came behind it -/
theorem box_cell {w w' : World} {cs : Array Value} {t : TypeId} (g : Gr (w.alloc (.cells cs t)) w') {i : Nat} {v : Value} (hi : cs[i]? = some v) : w'.cell? ⟨w.heap.size, i, none⟩ = some v :=
  cell_gr (by rw [cell_of_row _ w.heap.size i cs t (0, 0) (heap_alloc_new w _)]; exact hi) g
theorem lit_cell {w : World} {H : Nat} {v : Value} {t : TypeId} (hH : w.heap.size = H) : (w.alloc (.cells #[v] t)).cell? ⟨H, 0, none⟩ = some v := by
  subst hH
  exact box_cell (Gr.refl _) (i := 0) rfl
theorem i64_nat {k : Nat} (h : k ≤ 17592186044416) : I64 (k : Int) := by unfold I64; omega
theorem box_lt {w w' : World} {o : Obj} (g : Gr (w.alloc o) w') : w.heap.size < w'.heap.size := by
  have := g.le
  simp at this
  omega
theorem box_gr {w w' : World} {o : Obj} (g : Gr (w.alloc o) w') : Gr w w' := ((Gr.refl _).alloc o).trans g

/-- v reads as the ints xs in w -/
def Ints (w : World) (v : Value) (xs : List Int) : Prop :=
  ∃ a cap, v = .slice a xs.length cap ∧ xs.length ≤ cap ∧ cap ≤ maxLen ∧ (∀ x ∈ xs, I64 x) ∧ (a = none → cap = 0) ∧
    (∀ i, i < xs.length → ∃ b o, a = some ⟨b, o, none⟩ ∧ w.cell? ⟨b, o + i, none⟩ = some (.int .i64 (nth xs i)))

theorem nth_def (xs : List Int) (p : Nat) : nth xs p = xs.getD p 0 := rfl
theorem nth_take {xs : List Int} {k i : Nat} (h : i < k) : nth (xs.take k) i = xs.getD i 0 := by
  simp [nth, List.getD, h]
theorem Ints.intro {w : World} {v : Value} {xs : List Int} {a : Option Addr} {cap : Nat} (h1 : v = .slice a xs.length cap) (h2 : xs.length ≤ cap) (h3 : cap ≤ maxLen) (h4 : ∀ x ∈ xs, I64 x) (h6 : a = none → cap = 0)
    (h5 : ∀ i, i < xs.length → ∃ b o, a = some ⟨b, o, none⟩ ∧ w.cell? ⟨b, o + i, none⟩ = some (.int .i64 (nth xs i))) : Ints w v xs := ⟨a, cap, h1, h2, h3, h4, h6, h5⟩
theorem Ints.len {w : World} {v : Value} {xs : List Int} (h : Ints w v xs) : ∃ a cap, v = .slice a xs.length cap ∧ xs.length ≤ cap ∧ cap ≤ 9223372036854775807 := by
  obtain ⟨a, cap, h1, h2, h3, _⟩ := h
  exact ⟨a, cap, h1, h2, by unfold maxLen at h3; omega⟩

theorem Ints.range {w : World} {v : Value} {xs : List Int} (h : Ints w v xs) (p : Nat) : -9223372036854775808 ≤ nth xs p ∧ nth xs p ≤ 9223372036854775807 := by
  obtain ⟨a, cap, h1, h2, h3, h4, _⟩ := h
  by_cases hp : p < xs.length
  · rw [nth_lt hp]; exact h4 _ (List.getElem_mem hp)
  · rw [nth_ge (by omega)]; omega

theorem Ints.cell {w : World} {a : Option Addr} {n cap : Nat} {xs : List Int} (h : Ints w (.slice a n cap) xs) {i : Nat} (hi : i < xs.length) :
    ∃ b o, a = some ⟨b, o, none⟩ ∧ w.cell? ⟨b, o + i, none⟩ = some (.int .i64 (nth xs i)) := by
  obtain ⟨a', cap', h1, h2, h3, h4, _, h5⟩ := h
  cases h1
  exact h5 i hi
/-- a slice of ints: nil, or a row somewhere -/
theorem Ints.form {w : World} {v : Value} {xs : List Int} (h : Ints w v xs) : (v = .slice none 0 0 ∧ xs = []) ∨ ∃ ad cap, v = .slice (some ad) xs.length cap ∧ xs.length ≤ cap ∧ cap ≤ 9223372036854775807 := by
  obtain ⟨a, cap, h1, h2, h3, h4, h6, _⟩ := h
  cases a with
  | none =>
    have := h6 rfl
    subst this
    have h0 : xs = [] := List.eq_nil_of_length_eq_zero (by omega)
    subst h0
    exact .inl ⟨h1, rfl⟩
  | some ad => exact .inr ⟨ad, cap, h1, h2, by unfold maxLen at h3; omega⟩
theorem Ints.adds {w : World} {ad : Addr} {n cap : Nat} {xs : List Int} (h : Ints w (.slice (some ad) n cap) xs) {i : Nat} (hi : i < xs.length) : w.cell? (ad.add i) = some (.int .i64 (nth xs i)) := by
  obtain ⟨b, o, ha, hc⟩ := h.cell hi
  cases ha
  have : (⟨b, o, none⟩ : Addr).add i = ⟨b, o + i, none⟩ := by unfold Addr.add; split <;> simp_all
  rw [this]; exact hc

theorem cell_block {w : World} {a : Addr} {v : Value} (h : w.cell? a = some v) : a.block < w.heap.size := by
  unfold World.cell? at h
  split at h
  · rename_i c e f hb
    rcases Nat.lt_or_ge a.block w.heap.size with hl | hl
    · exact hl
    · rw [Array.getElem?_eq_none hl] at hb; cases hb
  · cases h

theorem Ints.below {w w' : World} {v : Value} {xs : List Int} (h : Ints w v xs) (hb : Below w.heap.size w w') : Ints w' v xs := by
  obtain ⟨a, cap, h1, h2, h3, h4, h6, h5⟩ := h
  refine ⟨a, cap, h1, h2, h3, h4, h6, fun i hi => ?_⟩
  obtain ⟨b, o, ha, hc⟩ := h5 i hi
  exact ⟨b, o, ha, (hb.cell (p := ⟨b, o + i, none⟩) (cell_block hc)).trans hc⟩

theorem Ints.gr {w w' : World} {v : Value} {xs : List Int} (h : Ints w v xs) (hb : Gr w w') : Ints w' v xs := h.below hb
theorem Ints.nil (w : World) : Ints w (.slice none 0 0) [] := ⟨none, 0, rfl, Nat.le_refl _, by unfold maxLen; omega, by simp, fun _ => rfl, fun i hi => by simp at hi⟩

/-! ### the markings' plain functions -/

def coversB (xs ys : List Int) : Bool := (List.range (max xs.length ys.length)).all fun p => decide (nth ys p ≤ nth xs p)

theorem coversB_iff (xs ys : List Int) : coversB xs ys = true ↔ ∀ p, nth ys p ≤ nth xs p := by
  unfold coversB
  rw [List.all_eq_true]
  constructor
  · intro h p
    by_cases hp : p < max xs.length ys.length
    · simpa using h p (List.mem_range.2 hp)
    · rw [nth_ge (by omega), nth_ge (by omega)]; omega
  · intro h p _
    simpa using h p

def sameB (xs ys : List Int) : Bool := coversB xs ys && coversB ys xs
theorem sameB_iff (xs ys : List Int) : sameB xs ys = true ↔ ∀ p, nth xs p = nth ys p := by
  unfold sameB
  rw [Bool.and_eq_true, coversB_iff, coversB_iff]
  constructor
  · intro ⟨h1, h2⟩ p
    have := h1 p
    have := h2 p
    omega
  · intro h
    exact ⟨fun p => by rw [h p]; omega, fun p => by rw [h p]; omega⟩

/-- what has been seen of the first k places -/
def CovUpto (xs ys : List Int) (k : Nat) : Prop := ∀ p, p < k → nth ys p ≤ nth xs p
theorem CovUpto.zero (xs ys : List Int) : CovUpto xs ys 0 := fun p hp => by omega
theorem CovUpto.succ {xs ys : List Int} {k : Nat} (h : CovUpto xs ys k) (hk : nth ys k ≤ nth xs k) : CovUpto xs ys (k + 1) := fun p hp => by
  rcases Nat.lt_or_ge p k with h1 | h1
  · exact h p h1
  · obtain rfl : p = k := by omega
    exact hk
theorem CovUpto.all {xs ys : List Int} {k : Nat} (h : CovUpto xs ys k) (hk : max xs.length ys.length ≤ k) : coversB xs ys = true := by
  rw [coversB_iff]
  intro p
  rcases Nat.lt_or_ge p k with h1 | h1
  · exact h p h1
  · rw [nth_ge (by omega), nth_ge (by omega)]; omega
theorem coversB_no {xs ys : List Int} {k : Nat} (hk : nth xs k < nth ys k) : coversB xs ys = false := by
  rw [Bool.eq_false_iff]
  intro h
  have := (coversB_iff xs ys).1 h k
  omega
theorem ret_bool {a b : Bool} (h : a = b) : Ending.returned (.bool a) = .returned (.bool b) := by rw [h]
theorem ret_i64 {a b : Int} (h : a = b) : Ending.returned (.int .i64 a) = .returned (.int .i64 b) := by rw [h]

theorem Ints.alloc {w : World} {v : Value} {xs : List Int} (h : Ints w v xs) (o : Obj) : Ints (w.alloc o) v xs := h.below ((Below.refl _ _).alloc (Nat.le_refl _) o)
theorem Ints.drew {w : World} {v : Value} {xs : List Int} (h : Ints w v xs) : Ints w.drew v xs := h.below (Below.refl _ _).drew
/-- a literal that was laid last -/
theorem Ints.lit {w : World} {H n m : Nat} {e : TypeId} {xs : List Int} {cs : Array Value} (hH : w.heap.size = H) (hn : n = xs.length) (hm : m = xs.length) (hcs : cs.toList = xs.map (Value.int .i64)) (hI : ∀ x ∈ xs, I64 x) (hl : xs.length ≤ 1000) :
    Ints (w.alloc (.cells cs e)) (.slice (some ⟨H, 0, none⟩) n m) xs := by
  subst hH hn hm
  refine ⟨some ⟨w.heap.size, 0, none⟩, xs.length, rfl, Nat.le_refl _, by unfold maxLen; omega, hI, (fun h => by cases h), fun i hi => ⟨w.heap.size, 0, rfl, ?_⟩⟩
  rw [Nat.zero_add, cell_of_row _ w.heap.size i cs e (0, 0) (heap_alloc_new w _), nth_lt hi, ← Array.getElem?_toList, hcs]
  simp [hi]
instance decI64 (x : Int) : Decidable (I64 x) := by unfold I64; infer_instance

/-! ### predicates handed to the library -/

/-- the function g of the program, bound to lb, answers p, and leaves the world as it was -/
def Answers (P : Program) (g : Nat) (lb : Array Value) (p : Int → Bool) : Prop :=
  ∀ (W : World) (x : Int), I64 x → Calls P g (#[.int .i64 x] ++ lb) W fun e w' => e = .returned (.bool (p x)) ∧ W = w'

/-- the first place at which p holds, or -1 -/
def firstOf (p : Int → Bool) : List Int → Int
  | [] => -1
  | x :: r => if p x then 0 else if firstOf p r = -1 then -1 else firstOf p r + 1

def NoneUpto (p : Int → Bool) (xs : List Int) (k : Nat) : Prop := ∀ i, i < k → p (nth xs i) = false
theorem NoneUpto.zero (p : Int → Bool) (xs : List Int) : NoneUpto p xs 0 := fun i hi => by omega
theorem NoneUpto.succ {p : Int → Bool} {xs : List Int} {k : Nat} (h : NoneUpto p xs k) (hk : p (nth xs k) = false) : NoneUpto p xs (k + 1) := fun i hi => by
  rcases Nat.lt_or_ge i k with h1 | h1
  · exact h i h1
  · obtain rfl : i = k := by omega
    exact hk
theorem firstOf_ge (p : Int → Bool) (xs : List Int) : -1 ≤ firstOf p xs := by
  induction xs with
  | nil => simp [firstOf]
  | cons x r ih => simp only [firstOf]; split <;> (try split) <;> omega
theorem firstOf_hit {p : Int → Bool} {xs : List Int} {k : Nat} (h : NoneUpto p xs k) (hk : k < xs.length) (hp : p (nth xs k) = true) : firstOf p xs = k := by
  induction xs generalizing k with
  | nil => simp at hk
  | cons x r ih =>
    cases k with
    | zero => simp only [firstOf]; rw [if_pos (by simpa [nth] using hp)]; rfl
    | succ k =>
      have h0 : p x = false := by simpa [nth] using h 0 (by omega)
      have hr := ih (k := k) (fun i hi => by simpa [nth] using h (i + 1) (by omega)) (by simpa using hk) (by simpa [nth] using hp)
      simp only [firstOf]
      rw [if_neg (by simp [h0]), hr, if_neg (by omega)]
      simp
theorem firstOf_miss {p : Int → Bool} {xs : List Int} (h : NoneUpto p xs xs.length) : firstOf p xs = -1 := by
  induction xs with
  | nil => rfl
  | cons x r ih =>
    have h0 : p x = false := by simpa [nth] using h 0 (by simp)
    have hr := ih (fun i hi => by simpa [nth] using h (i + 1) (by simp; omega))
    simp [firstOf, h0, hr]
theorem firstOf_any (p : Int → Bool) (xs : List Int) : decide (0 ≤ firstOf p xs) = xs.any p := by
  induction xs with
  | nil => simp [firstOf]
  | cons x r ih =>
    have := firstOf_ge p r
    simp only [firstOf, List.any_cons]
    by_cases h : p x = true
    · simp [h]
    · simp only [h, Bool.false_or, ← ih]
      simp only [Bool.false_eq_true, if_false]
      split
      · rename_i h1; rw [h1]
      · rw [decide_eq_decide]; omega
theorem firstOf_lt (p : Int → Bool) (xs : List Int) : firstOf p xs < xs.length ∨ xs = [] := by
  induction xs with
  | nil => exact .inr rfl
  | cons x r ih =>
    left
    simp only [firstOf, List.length_cons]
    rcases ih with h | h
    · split <;> (try split) <;> omega
    · subst h; simp [firstOf]; split <;> omega

/-! ### rows of ints that the call itself made -/

/-- the element's type of '[]int': one cell of eight bytes, 0 at first -/
structure IntTy (P : Program) (t e : TypeId) : Prop where
  und : P.underlying t = some (.slice e)
  info : (P.info? e).map (fun i => (i.zero, i.size, i.bytes)) = some (some (.int .i64 0), 1, 8)

/-- v is a row of the call's own (a block from base on) that holds the ints xs -/
def OwnI (e base : Nat) (w : World) (v : Value) (xs : List Int) : Prop :=
  w.ownsRow base e 1 v xs.length (xs.map (Value.int .i64)) ∧ ∀ x ∈ xs, I64 x

theorem OwnI.nil (e base : Nat) (w : World) : OwnI e base w (.slice none 0 0) [] := ⟨World.ownsRow_nil w base e 1, by simp⟩

theorem ownsRow_below {w w' : World} {base e size : Nat} {v : Value} {n : Nat} {xs : List Value} (h : w.ownsRow base e size v n xs) (hb : Below w.heap.size w w') : w'.ownsRow base e size v n xs :=
  h.kept (row := none) ⟨hb.os, hb.tape, hb.output, hb.size, fun k hk _ => hb.block k hk⟩ (by cases hv : v.ownBlock <;> simp)

theorem OwnI.below {e base : Nat} {w w' : World} {v : Value} {xs : List Int} (h : OwnI e base w v xs) (hb : Below w.heap.size w w') : OwnI e base w' v xs := ⟨ownsRow_below h.1 hb, h.2⟩
theorem OwnI.gr {e base : Nat} {w w' : World} {v : Value} {xs : List Int} (h : OwnI e base w v xs) (hb : Gr w w') : OwnI e base w' v xs := h.below hb
theorem OwnI.alloc {e base : Nat} {w : World} {v : Value} {xs : List Int} (h : OwnI e base w v xs) (o : Obj) : OwnI e base (w.alloc o) v xs := ⟨h.1.alloc o, h.2⟩
theorem OwnI.drew {e base : Nat} {w : World} {v : Value} {xs : List Int} (h : OwnI e base w v xs) : OwnI e base w.drew v xs := h
theorem OwnI.drewN {e base : Nat} {w : World} {v : Value} {xs : List Int} (h : OwnI e base w v xs) (q : Nat) : OwnI e base (w.drewN q) v xs := h
theorem OwnI.grown {e base : Nat} {w w' : World} {v : Value} {xs : List Int} {row : Option Nat} (h : OwnI e base w v xs) (hg : w.grownBy w' row) (hne : v.ownBlock = none ∨ v.ownBlock ≠ row) : OwnI e base w' v xs := ⟨h.1.kept hg hne, h.2⟩
/-- a store into a block of the call's own that is not this row -/
theorem OwnI.other {e base : Nat} {w : World} {v : Value} {xs : List Int} (h : OwnI e base w v xs) {a : Addr} (ha : v.ownBlock ≠ some a.block) (u : Value) : OwnI e base (w.setCell a u) v xs :=
  h.grown (row := some a.block) ⟨rfl, rfl, rfl, by simp [World.setCell], fun k hk hne => Below.heap_setCell _ _ _ _ (by intro h; subst h; exact hne rfl)⟩ (.inr ha)
theorem OwnI.lt {e base : Nat} {w : World} {v : Value} {xs : List Int} (h : OwnI e base w v xs) {k : Nat} (hk : v.ownBlock = some k) : base ≤ k ∧ k < w.heap.size := h.1.lt k hk

theorem OwnI.form {e base : Nat} {w : World} {v : Value} {xs : List Int} (h : OwnI e base w v xs) : (v = .slice none 0 0 ∧ xs = []) ∨ ∃ g cap, v = .slice (some ⟨g, 0, none⟩) xs.length cap ∧ base ≤ g ∧ g < w.heap.size ∧ xs.length ≤ cap ∧ cap ≤ 9223372036854775807 := by
  rcases h.1.2 with ⟨h1, h2⟩ | ⟨g, cap, cur, h1, h2, h3, h4, h5, _⟩
  · exact .inl ⟨h1, List.eq_nil_of_length_eq_zero h2⟩
  · exact .inr ⟨g, cap, h1, h2, (Array.getElem?_eq_some_iff.1 h3).1, h4, by unfold maxLen at h5; omega⟩

theorem OwnI.cell {e base : Nat} {w : World} {g n cap : Nat} {xs : List Int} (h : OwnI e base w (.slice (some ⟨g, 0, none⟩) n cap) xs) {i : Nat} (hi : i < xs.length) :
    w.cell? ⟨g, i, none⟩ = some (.int .i64 (nth xs i)) := by
  have hn : n = xs.length := by
    rcases h.1.2 with ⟨h1, _⟩ | ⟨g', cap', cur, h1, _⟩
    · cases h1
    · cases h1; rfl
  subst hn
  rw [h.1.cellAt i (by omega), nth_lt hi]
  simp [hi]
theorem OwnI.frozen {e base : Nat} {w : World} {g n cap : Nat} {xs : List Int} (h : OwnI e base w (.slice (some ⟨g, 0, none⟩) n cap) xs) (i : Nat) : w.frozen? ⟨g, i, none⟩ = false := by
  have hn : n = xs.length := by
    rcases h.1.2 with ⟨h1, _⟩ | ⟨g', cap', cur, h1, _⟩
    · cases h1
    · cases h1; rfl
  subst hn
  exact h.1.frozenAt i

theorem OwnI.set {e base : Nat} {w : World} {g n cap : Nat} {xs : List Int} (h : OwnI e base w (.slice (some ⟨g, 0, none⟩) n cap) xs) (i : Nat) (x : Int) (hx : I64 x) :
    OwnI e base (w.setCell ⟨g, i, none⟩ (.int .i64 x)) (.slice (some ⟨g, 0, none⟩) n cap) (xs.set i x) := by
  have hn : n = xs.length := by
    rcases h.1.2 with ⟨h1, _⟩ | ⟨g', cap', cur, h1, _⟩
    · cases h1
    · cases h1; rfl
  subst hn
  refine ⟨?_, ?_⟩
  · have := h.1.stored i (.int .i64 x)
    rw [List.length_set, List.map_set]
    exact this.1
  · intro y hy
    rcases List.mem_or_eq_of_mem_set hy with h1 | h1
    · exact h.2 y h1
    · rw [h1]; exact hx

theorem OwnI.ints {e base : Nat} {w : World} {v : Value} {xs : List Int} (h : OwnI e base w v xs) : Ints w v xs := by
  rcases h.form with ⟨rfl, rfl⟩ | ⟨g, cap, rfl, _, _, h3, h4⟩
  · exact Ints.nil w
  · exact ⟨some ⟨g, 0, none⟩, cap, rfl, h3, by unfold maxLen; omega, h.2, (fun h => by cases h), fun i hi => ⟨g, 0, rfl, by rw [Nat.zero_add]; exact h.cell hi⟩⟩

/-- a literal that was laid last -/
theorem OwnI.lit {w : World} {H n m base e : Nat} {xs : List Int} {cs : Array Value} (hH : w.heap.size = H) (hn : n = xs.length) (hm : m = xs.length) (hcs : cs.toList = xs.map (Value.int .i64)) (hI : ∀ x ∈ xs, I64 x) (hl : xs.length ≤ 1000) (hb : base ≤ w.heap.size) :
    OwnI e base (w.alloc (.cells cs e)) (.slice (some ⟨H, 0, none⟩) n m) xs := by
  subst hH hn hm
  have h1 : cs.size = xs.length := by rw [← Array.length_toList, hcs]; simp
  refine ⟨⟨by simp, .inr ⟨w.heap.size, xs.length, cs, rfl, hb, heap_alloc_new w _, Nat.le_refl _, by unfold maxLen; omega, by omega, ?_⟩⟩, hI⟩
  rw [hcs, List.take_of_length_le (by simp)]

theorem replicate_i64 (n : Nat) : ∀ x ∈ List.replicate n (0 : Int), I64 x := fun x hx => by
  rw [(List.mem_replicate.1 hx).2]; unfold I64; omega

section
variable {P : Program} {t e : TypeId}
/-- 'make([]int, n)' -/
theorem mk_ints (T : IntTy P t e) {w : World} {ops : Array Oper} {rest : List Oper} {o : Oper} {a : Act} {Q : Exit → Act → World → Prop} (l c : Operand)
    (base : Nat) (n : Nat) (L C : Int) (hg : o.guard = none) (hop : o.op = Op.makeSlice t l c) (hl : a.eval l = .int .i64 L) (hc : a.eval c = .int .i64 C) (hL : L = (n : Int)) (hC : C = (n : Int)) (hn : n ≤ 35184372088832) (hbase : base ≤ w.heap.size)
    (hK : ∀ w', OwnI e base w' (.slice (some ⟨w.heap.size, 0, none⟩) n n) (List.replicate n 0) → Gr w w' → w.heap.size < w'.heap.size →
      wpList P ops Q rest (a.put o.dst (.slice (some ⟨w.heap.size, 0, none⟩) n n)) w') : wpList P ops Q (o :: rest) a w := by
  obtain ⟨i, hi, hz, hs, hb⟩ := info_parts T.info
  refine wpList_make_full w hg l c t hop base e i _ 1 T.und hi hz hs .i64 .i64 L C n hl hc hL hC (by rw [hb]; omega) (by unfold maxLen; omega) hbase fun w' ho hgr => ?_
  refine hK w' ⟨?_, replicate_i64 n⟩ ⟨hgr.os, hgr.tape, hgr.output, hgr.size, fun k hk => hgr.block k hk (by simp)⟩ ?_
  · simp only [Value.cells, Nat.mul_one, toList_madeCells_one] at ho
    simpa using ho
  · exact (ho.lt w.heap.size rfl).2

/-- 'append(out, ys...)' -/
theorem app_ints (T : IntTy P t e) {w : World} {ops : Array Oper} {rest : List Oper} {o : Oper} {a : Act} {Q : Exit → Act → World → Prop} (s x : Operand)
    (base : Nat) (v u : Value) (xs ys : List Int) (hg : o.guard = none) (hop : o.op = .call { callee := .builtin .append, args := #[s, x], argTypes := #[t, t] }) (hs : a.eval s = v) (hx : a.eval x = u) (hown : OwnI e base w v xs) (hsrc : Ints w u ys)
    (hn : xs.length + ys.length ≤ 17592186044416) (hbase : base ≤ w.heap.size)
    (hK : ∀ v' w', OwnI e base w' v' (xs ++ ys) → (∀ a : World, a.heap.size ≤ base → Gr a w → Gr a w') → w.grownBy w' v.ownBlock → (v'.ownBlock = v.ownBlock ∨ v'.ownBlock = some w.heap.size) → wpList P ops Q rest (a.put o.dst v') w') : wpList P ops Q (o :: rest) a w := by
  obtain ⟨i, hi, hz, hsz, hb⟩ := info_parts T.info
  rcases hsrc.form with ⟨rfl, rfl⟩ | ⟨ad, cap, rfl, _, _⟩
  · refine wpList_append_own_none hg s x t hop base e i 1 T.und hi v xs.length _ hs hown.1 hx ?_
    exact hK v w (by rw [List.append_nil]; exact hown) (fun _ _ h => h) ⟨rfl, rfl, rfl, Nat.le_refl _, fun _ _ _ => rfl⟩ (.inl rfl)
  · refine wpList_append_own_at w hg s x t hop base e i _ 1 8 T.und hi hz hsz hb rfl (by omega) v xs.length _ hs hown.1 ad ys.length cap (ys.map (Value.int .i64)) hx (by simp) ?_ (ints_oneCell _ _) (by unfold maxLen; omega) (by omega) hbase ?_
    · intro j u hj
      rw [List.getElem?_map] at hj
      obtain ⟨y, hy, rfl⟩ := Option.map_eq_some_iff.1 hj
      have hjl : j < ys.length := (List.getElem?_eq_some_iff.1 hy).1
      rw [hsrc.adds hjl, nth_lt hjl]
      rw [List.getElem?_eq_getElem hjl] at hy
      cases hy; rfl
    · intro v' w' ho hgr _ hat
      have hall : ∀ y ∈ ys, I64 y := by
        obtain ⟨_, _, _, _, _, h4, _⟩ := hsrc
        exact h4
      refine hK v' w' ⟨by simpa using ho, ?_⟩ ?_ hgr hat
      · intro z hz
        rcases List.mem_append.1 hz with h1 | h1
        · exact hown.2 z h1
        · exact hall z h1
      · intro a hB hb
        exact hb.grown hgr fun k hk => Nat.le_trans hB (hown.lt hk).1

/-- 'append(out, x)' -/
theorem app_int (T : IntTy P t e) {w : World} {ops : Array Oper} {rest : List Oper} {o : Oper} {a : Act} {Q : Exit → Act → World → Prop} (s x : Operand)
    (base : Nat) (v : Value) (xs : List Int) (ad : Addr) (y : Int) (hg : o.guard = none) (hop : o.op = .call { callee := .builtin .append, args := #[s, x], argTypes := #[t, t] }) (hs : a.eval s = v) (hx : a.eval x = .slice (some ad) 1 1) (hown : OwnI e base w v xs) (hcell : w.cell? ad = some (.int .i64 y)) (hy : I64 y)
    (hn : xs.length + 1 ≤ 17592186044416) (hbase : base ≤ w.heap.size)
    (hK : ∀ v' w', OwnI e base w' v' (xs ++ [y]) → (∀ a : World, a.heap.size ≤ base → Gr a w → Gr a w') → w.grownBy w' v.ownBlock → (v'.ownBlock = v.ownBlock ∨ v'.ownBlock = some w.heap.size) → wpList P ops Q rest (a.put o.dst v') w') : wpList P ops Q (o :: rest) a w := by
  obtain ⟨i, hi, hz, hsz, hb⟩ := info_parts T.info
  refine wpList_append_own_at w hg s x t hop base e i _ 1 8 T.und hi hz hsz hb rfl (by omega) v xs.length _ hs hown.1 ad 1 1 [.int .i64 y] hx rfl ?_ (by simp [Value.oneCell']) (by unfold maxLen; omega) (by omega) hbase ?_
  · intro j u hj
    cases j with
    | zero => simp at hj; subst hj; rw [show ad.add 0 = ad by unfold Addr.add; split <;> simp_all]; exact hcell
    | succ j => simp at hj
  · intro v' w' ho hgr _ hat
    refine hK v' w' ⟨by simpa using ho, ?_⟩ ?_ hgr hat
    · intro z hz
      rcases List.mem_append.1 hz with h1 | h1
      · exact hown.2 z h1
      · rw [List.mem_singleton.1 h1]; exact hy
    · intro a hB hb
      exact hb.grown hgr fun k hk => Nat.le_trans hB (hown.lt hk).1
end

/-! ### zip of two markings -/

def rightB (xs : List Int) : Bool := !(xs.any fun n => decide (n < 0) || decide (n > 1000000))
theorem rightB_def (xs : List Int) : rightB xs = !(xs.any fun n => decide (n < 0) || decide (n > 1000000)) := rfl
theorem rightB_iff (xs : List Int) : rightB xs = true ↔ ∀ x ∈ xs, 0 ≤ x ∧ x ≤ 1000000 := by
  unfold rightB
  rw [Bool.not_eq_true', List.any_eq_false]
  constructor
  · intro h x hx
    have := h x hx
    simp at this
    omega
  · intro h x hx
    have := h x hx
    simp
    omega
theorem rightB_nth {xs : List Int} (h : rightB xs = true) (p : Nat) : 0 ≤ nth xs p ∧ nth xs p ≤ 1000000 := by
  by_cases hp : p < xs.length
  · rw [nth_lt hp]; exact (rightB_iff xs).1 h _ (List.getElem_mem hp)
  · rw [nth_ge (by omega)]; omega

def zipB (f : Int → Int → Int × Int) (xs ys : List Int) : List Int × Int :=
  match (List.range (max xs.length ys.length)).find? (fun p => decide ((f (nth xs p) (nth ys p)).2 ≠ 0)) with
  | some p => ([], (f (nth xs p) (nth ys p)).2)
  | none => ((List.range (max xs.length ys.length)).map fun p => (f (nth xs p) (nth ys p)).1, 0)

def zipF (f : Int → Int → Int × Int) (xs ys : List Int) : List Int × Int := if rightB xs && rightB ys then zipB f xs ys else ([], 2)

def AllOk (f : Int → Int → Int × Int) (xs ys : List Int) (k : Nat) : Prop := ∀ p, p < k → (f (nth xs p) (nth ys p)).2 = 0
theorem AllOk.intro {f : Int → Int → Int × Int} {xs ys : List Int} {k : Nat} (h : ∀ p, p < k → (f (nth xs p) (nth ys p)).2 = 0) : AllOk f xs ys k := h
theorem AllOk.zero (f : Int → Int → Int × Int) (xs ys : List Int) : AllOk f xs ys 0 := fun p hp => by omega
theorem AllOk.succ {f : Int → Int → Int × Int} {xs ys : List Int} {k : Nat} (h : AllOk f xs ys k) (hk : (f (nth xs k) (nth ys k)).2 = 0) : AllOk f xs ys (k + 1) := fun p hp => by
  rcases Nat.lt_or_ge p k with h1 | h1
  · exact h p h1
  · obtain rfl : p = k := by omega
    exact hk

theorem find_range_hit {p : Nat → Bool} {n k : Nat} (hk : k < n) (h : ∀ i, i < k → p i = false) (hp : p k = true) : (List.range n).find? p = some k := by
  rw [List.find?_range_eq_some]
  exact ⟨hp, by simpa using hk, fun j hj => by simp [h j hj]⟩
theorem find_range_miss {p : Nat → Bool} {n : Nat} (h : ∀ i, i < n → p i = false) : (List.range n).find? p = none := by
  rw [List.find?_range_eq_none]
  exact fun i hi => by simp [h i hi]

theorem zipB_bad {f : Int → Int → Int × Int} {xs ys : List Int} {k : Nat} (h : AllOk f xs ys k) (hk : k < max xs.length ys.length) (hp : (f (nth xs k) (nth ys k)).2 ≠ 0) :
    zipB f xs ys = ([], (f (nth xs k) (nth ys k)).2) := by
  unfold zipB
  rw [find_range_hit hk (fun i hi => by simp [h i hi]) (by simp [hp])]
theorem zipB_good {f : Int → Int → Int × Int} {xs ys : List Int} {k : Nat} (h : AllOk f xs ys k) (hk : max xs.length ys.length ≤ k) :
    zipB f xs ys = ((List.range (max xs.length ys.length)).map fun p => (f (nth xs p) (nth ys p)).1, 0) := by
  unfold zipB
  rw [find_range_miss (fun i hi => by simp [h i (by omega)])]

/-- a row of n places, of which the first k are filled -/
def fillTo (val : Nat → Int) (n k : Nat) : List Int := (List.range n).map fun p => if p < k then val p else 0
theorem fillTo_zero (val : Nat → Int) (n : Nat) : List.replicate n 0 = fillTo val n 0 := by
  apply List.ext_getElem <;> simp [fillTo]
theorem fillTo_set (val : Nat → Int) (n k : Nat) : (fillTo val n k).set k (val k) = fillTo val n (k + 1) := by
  apply List.ext_getElem
  · simp [fillTo]
  · intro i h1 h2
    simp only [fillTo, List.getElem_set, List.getElem_map, List.getElem_range]
    by_cases h : k = i
    · subst h; simp
    · rw [if_neg h]
      by_cases h3 : i < k
      · rw [if_pos h3, if_pos (by omega)]
      · rw [if_neg h3, if_neg (by omega)]
theorem fillTo_all (val : Nat → Int) {n k : Nat} (h : n ≤ k) : fillTo val n k = (List.range n).map val := by
  unfold fillTo
  apply List.map_congr_left
  intro i hi
  rw [if_pos (by have := List.mem_range.1 hi; omega)]
theorem fillTo_length (val : Nat → Int) (n k : Nat) : (fillTo val n k).length = n := by simp [fillTo]

/-- the function g of the program, bound to lb, answers f of two numbers from 0 to 1000000, and leaves the world as it was -/
def Answers2 (P : Program) (g : Nat) (lb : Array Value) (f : Int → Int → Int × Int) : Prop :=
  ∀ (W : World) (x y : Int), 0 ≤ x → x ≤ 1000000 → 0 ≤ y → y ≤ 1000000 → Calls P g (#[.int .i64 x, .int .i64 y] ++ lb) W fun e w' => e = .returned (.tuple #[.int .i64 (f x y).1, .int .i64 (f x y).2]) ∧ W = w'

/-- what a call that hands back a list and an error leaves -/
def RetIE (w : World) (r : List Int × Int) (e : Ending) (w' : World) : Prop :=
  ∃ v, e = .returned (.tuple #[v, .int .i64 r.2]) ∧ Ints w' v r.1 ∧ Gr w w'
theorem RetIE.mk {w w' : World} {v : Value} {x : Int} {r : List Int × Int} {xs : List Int} (hr : r = (xs, x)) (hv : Ints w' v xs) (hb : Gr w w') : RetIE w r (.returned (.tuple #[v, .int .i64 x])) w' := by
  subst hr
  exact ⟨v, rfl, hv, hb⟩
/-! ### equality, search, of lists -/
def eqUpto (xs ys : List Int) (k : Nat) : Prop := ∀ i, i < k → nth xs i = nth ys i
theorem eqUpto.zero (xs ys : List Int) : eqUpto xs ys 0 := fun i hi => by omega
theorem eqUpto.succ {xs ys : List Int} {k : Nat} (h : eqUpto xs ys k) (hk : nth xs k = nth ys k) : eqUpto xs ys (k + 1) := fun p hp => by
  rcases Nat.lt_or_ge p k with h1 | h1
  · exact h p h1
  · obtain rfl : p = k := by omega
    exact hk
theorem eqUpto.all {xs ys : List Int} {k : Nat} (h : eqUpto xs ys k) (hl : xs.length = ys.length) (hk : xs.length ≤ k) : xs = ys := by
  apply List.ext_getElem hl
  intro i h1 h2
  have := h i (by omega)
  rwa [nth_lt h1, nth_lt h2] at this
def eqB (xs ys : List Int) : Bool := decide (xs = ys)
theorem eqB_iff (xs ys : List Int) : eqB xs ys = true ↔ xs = ys := by simp [eqB]
theorem eqB_len {xs ys : List Int} (h : xs.length ≠ ys.length) : eqB xs ys = false := by
  simp only [eqB, decide_eq_false_iff_not]; intro e; rw [e] at h; exact h rfl
theorem eqB_no {xs ys : List Int} {k : Nat} (h : nth xs k ≠ nth ys k) : eqB xs ys = false := by
  simp only [eqB, decide_eq_false_iff_not]; intro e; rw [e] at h; exact h rfl
theorem eqB_yes {xs ys : List Int} (h : xs = ys) : eqB xs ys = true := by simp [eqB, h]
def hasB (xs : List Int) (x : Int) : Bool := xs.any fun y => decide (x = y)
theorem hasB_iff (xs : List Int) (x : Int) : hasB xs x = true ↔ x ∈ xs := by simp [hasB]
theorem hasB_def (xs : List Int) (x : Int) : hasB xs x = xs.any fun y => decide (x = y) := rfl

attribute [irreducible] eqUpto eqB hasB
attribute [irreducible] Ints Gr OwnI coversB sameB rightB zipB zipF nth CovUpto NoneUpto AllOk fillTo firstOf
end Go.Tok
