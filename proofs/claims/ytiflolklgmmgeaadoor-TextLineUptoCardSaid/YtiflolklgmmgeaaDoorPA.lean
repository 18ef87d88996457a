/- The vocabulary that all texts of this family share: how ints, slices of ints stand in memory; plain functions on lists. No program is in sight here. -/
import Derived.WalkKit
import Derived.WalkLawsBesides
import Derived.WalkSpells
import Derived.Lib.Hide
import Derived.Shelf.Abstract
import Derived.Maps.AppendAt
import Derived.Laws.AppendOwnNone
import Derived.Deep.AppendLies
import Derived.WideKeyEntry
import Derived.Maps.Own
import Derived.DeepKeys4
import Derived.Laws.CopyOwn
import Derived.Lib.AppendZeros
namespace Go.Tok
open Go.RowKit

/-- the element at place p, 0 beyond the end -/
def nth (xs : List Int) (p : Nat) : Int := xs.getD p 0

theorem nth_lt {xs : List Int} {p : Nat} (h : p < xs.length) : nth xs p = xs[p] := by simp [nth, h]
theorem nth_ge {xs : List Int} {p : Nat} (h : xs.length ≤ p) : nth xs p = 0 := by simp [nth, List.getD, List.getElem?_eq_none h]


def I64 (x : Int) : Prop := -9223372036854775808 ≤ x ∧ x ≤ 9223372036854775807

/-! ### a later world: all that lay in w lies unturned -/
def Gr (w w' : World) : Prop := Below w.heap.size w w'
theorem Gr.refl (w : World) : Gr w w := Below.refl _ _
theorem Gr.trans {a b c : World} (h : Gr a b) (k : Gr b c) : Gr a c := Below.trans h (Below.mono k h.size)
theorem Gr.alloc {a b : World} (h : Gr a b) (o : Obj) : Gr a (b.alloc o) := Below.alloc h h.size o
theorem Gr.drew {a b : World} (h : Gr a b) : Gr a b.drew := Below.drew h
theorem Gr.drewN {a b : World} (h : Gr a b) (q : Nat) : Gr a (b.drewN q) := ⟨h.os, h.tape, h.output, h.size, h.block⟩
theorem Gr.setCell {a b : World} (h : Gr a b) {p : Addr} (hp : a.heap.size ≤ p.block) (u : Value) : Gr a (b.setCell p u) := Below.setCell h hp u
theorem Gr.grown {a b c : World} {row : Option Nat} (h : Gr a b) (hg : b.grownBy c row) (hr : ∀ k, row = some k → a.heap.size ≤ k) : Gr a c := Below.grown h hg h.size hr
theorem Gr.below {a b : World} (h : Gr a b) : Below a.heap.size a b := h
theorem Gr.le {a b : World} (h : Gr a b) : a.heap.size ≤ b.heap.size := h.size

theorem cell_gr {w w' : World} {a : Addr} {v : Value} (h : w.cell? a = some v) (g : Gr w w') : w'.cell? a = some v := by
  have hb : a.block < w.heap.size := by
    unfold World.cell? at h
    split at h
    · rename_i c e f hb
      rcases Nat.lt_or_ge a.block w.heap.size with hl | hl
      · exact hl
      · rw [Array.getElem?_eq_none hl] at hb; cases hb
    · cases h
  exact (g.below.cell (p := a) hb).trans h
/-- a box that was laid, and what came behind it -/
theorem box_cell {w w' : World} {cs : Array Value} {t : TypeId} (g : Gr (w.alloc (.cells cs t)) w') {i : Nat} {v : Value} (hi : cs[i]? = some v) : w'.cell? ⟨w.heap.size, i, none⟩ = some v :=
  cell_gr (by rw [cell_of_row _ w.heap.size i cs t (0, 0) (heap_alloc_new w _)]; exact hi) g
theorem lit_cell {w : World} {H : Nat} {v : Value} {t : TypeId} (hH : w.heap.size = H) : (w.alloc (.cells #[v] t)).cell? ⟨H, 0, none⟩ = some v := by
  subst hH
  exact box_cell (Gr.refl _) (i := 0) rfl
theorem i64_nat {k : Nat} (h : k ≤ 17592186044416) : I64 (k : Int) := by unfold I64; omega
theorem box_lt {w w' : World} {o : Obj} (g : Gr (w.alloc o) w') : w.heap.size < w'.heap.size := by
  have := g.le
  simp at this
  omega
theorem box_gr {w w' : World} {o : Obj} (g : Gr (w.alloc o) w') : Gr w w' := ((Gr.refl _).alloc o).trans g

/-- v reads as the ints xs in w -/
def Ints (w : World) (v : Value) (xs : List Int) : Prop :=
  ∃ a cap, v = .slice a xs.length cap ∧ xs.length ≤ cap ∧ cap ≤ maxLen ∧ (∀ x ∈ xs, I64 x) ∧ (a = none → cap = 0) ∧
    (∀ i, i < xs.length → ∃ b o, a = some ⟨b, o, none⟩ ∧ w.cell? ⟨b, o + i, none⟩ = some (.int .i64 (nth xs i)))

theorem nth_def (xs : List Int) (p : Nat) : nth xs p = xs.getD p 0 := rfl
theorem nth_take {xs : List Int} {k i : Nat} (h : i < k) : nth (xs.take k) i = xs.getD i 0 := by
  simp [nth, List.getD, h]
theorem Ints.intro {w : World} {v : Value} {xs : List Int} {a : Option Addr} {cap : Nat} (h1 : v = .slice a xs.length cap) (h2 : xs.length ≤ cap) (h3 : cap ≤ maxLen) (h4 : ∀ x ∈ xs, I64 x) (h6 : a = none → cap = 0)
    (h5 : ∀ i, i < xs.length → ∃ b o, a = some ⟨b, o, none⟩ ∧ w.cell? ⟨b, o + i, none⟩ = some (.int .i64 (nth xs i))) : Ints w v xs := ⟨a, cap, h1, h2, h3, h4, h6, h5⟩
theorem Ints.len {w : World} {v : Value} {xs : List Int} (h : Ints w v xs) : ∃ a cap, v = .slice a xs.length cap ∧ xs.length ≤ cap ∧ cap ≤ 9223372036854775807 := by
  obtain ⟨a, cap, h1, h2, h3, _⟩ := h
  exact ⟨a, cap, h1, h2, by unfold maxLen at h3; omega⟩

theorem Ints.range {w : World} {v : Value} {xs : List Int} (h : Ints w v xs) (p : Nat) : -9223372036854775808 ≤ nth xs p ∧ nth xs p ≤ 9223372036854775807 := by
  obtain ⟨a, cap, h1, h2, h3, h4, _⟩ := h
  by_cases hp : p < xs.length
  · rw [nth_lt hp]; exact h4 _ (List.getElem_mem hp)
  · rw [nth_ge (by omega)]; omega

theorem Ints.cell {w : World} {a : Option Addr} {n cap : Nat} {xs : List Int} (h : Ints w (.slice a n cap) xs) {i : Nat} (hi : i < xs.length) :
    ∃ b o, a = some ⟨b, o, none⟩ ∧ w.cell? ⟨b, o + i, none⟩ = some (.int .i64 (nth xs i)) := by
  obtain ⟨a', cap', h1, h2, h3, h4, _, h5⟩ := h
  cases h1
  exact h5 i hi
/-- a slice of ints: nil, or a row somewhere -/
theorem Ints.form {w : World} {v : Value} {xs : List Int} (h : Ints w v xs) : (v = .slice none 0 0 ∧ xs = []) ∨ ∃ ad cap, v = .slice (some ad) xs.length cap ∧ xs.length ≤ cap ∧ cap ≤ 9223372036854775807 := by
  obtain ⟨a, cap, h1, h2, h3, h4, h6, _⟩ := h
  cases a with
  | none =>
    have := h6 rfl
    subst this
    have h0 : xs = [] := List.eq_nil_of_length_eq_zero (by omega)
    subst h0
    exact .inl ⟨h1, rfl⟩
  | some ad => exact .inr ⟨ad, cap, h1, h2, by unfold maxLen at h3; omega⟩
theorem Ints.adds {w : World} {ad : Addr} {n cap : Nat} {xs : List Int} (h : Ints w (.slice (some ad) n cap) xs) {i : Nat} (hi : i < xs.length) : w.cell? (ad.add i) = some (.int .i64 (nth xs i)) := by
  obtain ⟨b, o, ha, hc⟩ := h.cell hi
  cases ha
  have : (⟨b, o, none⟩ : Addr).add i = ⟨b, o + i, none⟩ := by unfold Addr.add; split <;> simp_all
  rw [this]; exact hc

theorem cell_block {w : World} {a : Addr} {v : Value} (h : w.cell? a = some v) : a.block < w.heap.size := by
  unfold World.cell? at h
  split at h
  · rename_i c e f hb
    rcases Nat.lt_or_ge a.block w.heap.size with hl | hl
    · exact hl
    · rw [Array.getElem?_eq_none hl] at hb; cases hb
  · cases h

theorem Ints.below {w w' : World} {v : Value} {xs : List Int} (h : Ints w v xs) (hb : Below w.heap.size w w') : Ints w' v xs := by
  obtain ⟨a, cap, h1, h2, h3, h4, h6, h5⟩ := h
  refine ⟨a, cap, h1, h2, h3, h4, h6, fun i hi => ?_⟩
  obtain ⟨b, o, ha, hc⟩ := h5 i hi
  exact ⟨b, o, ha, (hb.cell (p := ⟨b, o + i, none⟩) (cell_block hc)).trans hc⟩

theorem Ints.gr {w w' : World} {v : Value} {xs : List Int} (h : Ints w v xs) (hb : Gr w w') : Ints w' v xs := h.below hb
theorem Ints.nil (w : World) : Ints w (.slice none 0 0) [] := ⟨none, 0, rfl, Nat.le_refl _, by unfold maxLen; omega, by simp, fun _ => rfl, fun i hi => by simp at hi⟩

/-! ### the markings' plain functions -/

def coversB (xs ys : List Int) : Bool := (List.range (max xs.length ys.length)).all fun p => decide (nth ys p ≤ nth xs p)

theorem coversB_iff (xs ys : List Int) : coversB xs ys = true ↔ ∀ p, nth ys p ≤ nth xs p := by
  unfold coversB
  rw [List.all_eq_true]
  constructor
  · intro h p
    by_cases hp : p < max xs.length ys.length
    · simpa using h p (List.mem_range.2 hp)
    · rw [nth_ge (by omega), nth_ge (by omega)]; omega
  · intro h p _
    simpa using h p

def sameB (xs ys : List Int) : Bool := coversB xs ys && coversB ys xs
theorem sameB_iff (xs ys : List Int) : sameB xs ys = true ↔ ∀ p, nth xs p = nth ys p := by
  unfold sameB
  rw [Bool.and_eq_true, coversB_iff, coversB_iff]
  constructor
  · intro ⟨h1, h2⟩ p
    have := h1 p
    have := h2 p
    omega
  · intro h
    exact ⟨fun p => by rw [h p]; omega, fun p => by rw [h p]; omega⟩

/-- what has been seen of the first k places -/
def CovUpto (xs ys : List Int) (k : Nat) : Prop := ∀ p, p < k → nth ys p ≤ nth xs p
theorem CovUpto.zero (xs ys : List Int) : CovUpto xs ys 0 := fun p hp => by omega
theorem CovUpto.succ {xs ys : List Int} {k : Nat} (h : CovUpto xs ys k) (hk : nth ys k ≤ nth xs k) : CovUpto xs ys (k + 1) := fun p hp => by
  rcases Nat.lt_or_ge p k with h1 | h1
  · exact h p h1
  · obtain rfl : p = k := by omega
    exact hk
theorem CovUpto.all {xs ys : List Int} {k : Nat} (h : CovUpto xs ys k) (hk : max xs.length ys.length ≤ k) : coversB xs ys = true := by
  rw [coversB_iff]
  intro p
  rcases Nat.lt_or_ge p k with h1 | h1
  · exact h p h1
  · rw [nth_ge (by omega), nth_ge (by omega)]; omega
theorem coversB_no {xs ys : List Int} {k : Nat} (hk : nth xs k < nth ys k) : coversB xs ys = false := by
  rw [Bool.eq_false_iff]
  intro h
  have := (coversB_iff xs ys).1 h k
  omega
theorem ret_bool {a b : Bool} (h : a = b) : Ending.returned (.bool a) = .returned (.bool b) := by rw [h]
theorem ret_i64 {a b : Int} (h : a = b) : Ending.returned (.int .i64 a) = .returned (.int .i64 b) := by rw [h]

theorem Ints.alloc {w : World} {v : Value} {xs : List Int} (h : Ints w v xs) (o : Obj) : Ints (w.alloc o) v xs := h.below ((Below.refl _ _).alloc (Nat.le_refl _) o)
theorem Ints.drew {w : World} {v : Value} {xs : List Int} (h : Ints w v xs) : Ints w.drew v xs := h.below (Below.refl _ _).drew
/-- a literal that was laid last -/
theorem Ints.lit {w : World} {H n m : Nat} {e : TypeId} {xs : List Int} {cs : Array Value} (hH : w.heap.size = H) (hn : n = xs.length) (hm : m = xs.length) (hcs : cs.toList = xs.map (Value.int .i64)) (hI : ∀ x ∈ xs, I64 x) (hl : xs.length ≤ 1000) :
    Ints (w.alloc (.cells cs e)) (.slice (some ⟨H, 0, none⟩) n m) xs := by
  subst hH hn hm
  refine ⟨some ⟨w.heap.size, 0, none⟩, xs.length, rfl, Nat.le_refl _, by unfold maxLen; omega, hI, (fun h => by cases h), fun i hi => ⟨w.heap.size, 0, rfl, ?_⟩⟩
  rw [Nat.zero_add, cell_of_row _ w.heap.size i cs e (0, 0) (heap_alloc_new w _), nth_lt hi, ← Array.getElem?_toList, hcs]
  simp [hi]
instance decI64 (x : Int) : Decidable (I64 x) := by unfold I64; infer_instance

/-! ### predicates handed to the library -/

/-- the function g of the program, bound to lb, answers p, and leaves the world as it was -/
def Answers (P : Program) (g : Nat) (lb : Array Value) (p : Int → Bool) : Prop :=
  ∀ (W : World) (x : Int), I64 x → Calls P g (#[.int .i64 x] ++ lb) W fun e w' => e = .returned (.bool (p x)) ∧ W = w'

/-- the first place at which p holds, or -1 -/
def firstOf (p : Int → Bool) : List Int → Int
  | [] => -1
  | x :: r => if p x then 0 else if firstOf p r = -1 then -1 else firstOf p r + 1

def NoneUpto (p : Int → Bool) (xs : List Int) (k : Nat) : Prop := ∀ i, i < k → p (nth xs i) = false
theorem NoneUpto.zero (p : Int → Bool) (xs : List Int) : NoneUpto p xs 0 := fun i hi => by omega
theorem NoneUpto.succ {p : Int → Bool} {xs : List Int} {k : Nat} (h : NoneUpto p xs k) (hk : p (nth xs k) = false) : NoneUpto p xs (k + 1) := fun i hi => by
  rcases Nat.lt_or_ge i k with h1 | h1
  · exact h i h1
  · obtain rfl : i = k := by omega
    exact hk
theorem firstOf_ge (p : Int → Bool) (xs : List Int) : -1 ≤ firstOf p xs := by
  induction xs with
  | nil => simp [firstOf]
  | cons x r ih => simp only [firstOf]; split <;> (try split) <;> omega
theorem firstOf_hit {p : Int → Bool} {xs : List Int} {k : Nat} (h : NoneUpto p xs k) (hk : k < xs.length) (hp : p (nth xs k) = true) : firstOf p xs = k := by
  induction xs generalizing k with
  | nil => simp at hk
  | cons x r ih =>
    cases k with
    | zero => simp only [firstOf]; rw [if_pos (by simpa [nth] using hp)]; rfl
    | succ k =>
      have h0 : p x = false := by simpa [nth] using h 0 (by omega)
      have hr := ih (k := k) (fun i hi => by simpa [nth] using h (i + 1) (by omega)) (by simpa using hk) (by simpa [nth] using hp)
      simp only [firstOf]
      rw [if_neg (by simp [h0]), hr, if_neg (by omega)]
      simp
theorem firstOf_miss {p : Int → Bool} {xs : List Int} (h : NoneUpto p xs xs.length) : firstOf p xs = -1 := by
  induction xs with
  | nil => rfl
  | cons x r ih =>
    have h0 : p x = false := by simpa [nth] using h 0 (by simp)
    have hr := ih (fun i hi => by simpa [nth] using h (i + 1) (by simp; omega))
    simp [firstOf, h0, hr]
theorem firstOf_any (p : Int → Bool) (xs : List Int) : decide (0 ≤ firstOf p xs) = xs.any p := by
  induction xs with
  | nil => simp [firstOf]
  | cons x r ih =>
    have := firstOf_ge p r
    simp only [firstOf, List.any_cons]
    by_cases h : p x = true
    · simp [h]
    · simp only [h, Bool.false_or, ← ih]
      simp only [Bool.false_eq_true, if_false]
      split
      · rename_i h1; rw [h1]
      · rw [decide_eq_decide]; omega
theorem firstOf_lt (p : Int → Bool) (xs : List Int) : firstOf p xs < xs.length ∨ xs = [] := by
  induction xs with
  | nil => exact .inr rfl
  | cons x r ih =>
    left
    simp only [firstOf, List.length_cons]
    rcases ih with h | h
    · split <;> (try split) <;> omega
    · subst h; simp [firstOf]; split <;> omega

/-! ### rows of ints that the call itself made -/

/-- the element's type of '[]int': one cell of eight bytes, 0 at first -/
structure IntTy (P : Program) (t e : TypeId) : Prop where
  und : P.underlying t = some (.slice e)
  info : (P.info? e).map (fun i => (i.zero, i.size, i.bytes)) = some (some (.int .i64 0), 1, 8)

/-- v is a row of the call's own (a block from base on) that holds the ints xs -/
def OwnI (e base : Nat) (w : World) (v : Value) (xs : List Int) : Prop :=
  w.ownsRow base e 1 v xs.length (xs.map (Value.int .i64)) ∧ ∀ x ∈ xs, I64 x

theorem OwnI.nil (e base : Nat) (w : World) : OwnI e base w (.slice none 0 0) [] := ⟨World.ownsRow_nil w base e 1, by simp⟩

theorem ownsRow_below {w w' : World} {base e size : Nat} {v : Value} {n : Nat} {xs : List Value} (h : w.ownsRow base e size v n xs) (hb : Below w.heap.size w w') : w'.ownsRow base e size v n xs :=
  h.kept (row := none) ⟨hb.os, hb.tape, hb.output, hb.size, fun k hk _ => hb.block k hk⟩ (by cases hv : v.ownBlock <;> simp)

theorem OwnI.below {e base : Nat} {w w' : World} {v : Value} {xs : List Int} (h : OwnI e base w v xs) (hb : Below w.heap.size w w') : OwnI e base w' v xs := ⟨ownsRow_below h.1 hb, h.2⟩
theorem OwnI.gr {e base : Nat} {w w' : World} {v : Value} {xs : List Int} (h : OwnI e base w v xs) (hb : Gr w w') : OwnI e base w' v xs := h.below hb
theorem OwnI.alloc {e base : Nat} {w : World} {v : Value} {xs : List Int} (h : OwnI e base w v xs) (o : Obj) : OwnI e base (w.alloc o) v xs := ⟨h.1.alloc o, h.2⟩
theorem OwnI.drew {e base : Nat} {w : World} {v : Value} {xs : List Int} (h : OwnI e base w v xs) : OwnI e base w.drew v xs := h
theorem OwnI.drewN {e base : Nat} {w : World} {v : Value} {xs : List Int} (h : OwnI e base w v xs) (q : Nat) : OwnI e base (w.drewN q) v xs := h
theorem OwnI.grown {e base : Nat} {w w' : World} {v : Value} {xs : List Int} {row : Option Nat} (h : OwnI e base w v xs) (hg : w.grownBy w' row) (hne : v.ownBlock = none ∨ v.ownBlock ≠ row) : OwnI e base w' v xs := ⟨h.1.kept hg hne, h.2⟩
/-- a store into a block of the call's own that is not this row -/
theorem OwnI.other {e base : Nat} {w : World} {v : Value} {xs : List Int} (h : OwnI e base w v xs) {a : Addr} (ha : v.ownBlock ≠ some a.block) (u : Value) : OwnI e base (w.setCell a u) v xs :=
  h.grown (row := some a.block) ⟨rfl, rfl, rfl, by simp [World.setCell], fun k hk hne => Below.heap_setCell _ _ _ _ (by intro h; subst h; exact hne rfl)⟩ (.inr ha)
theorem OwnI.lt {e base : Nat} {w : World} {v : Value} {xs : List Int} (h : OwnI e base w v xs) {k : Nat} (hk : v.ownBlock = some k) : base ≤ k ∧ k < w.heap.size := h.1.lt k hk

theorem OwnI.form {e base : Nat} {w : World} {v : Value} {xs : List Int} (h : OwnI e base w v xs) : (v = .slice none 0 0 ∧ xs = []) ∨ ∃ g cap, v = .slice (some ⟨g, 0, none⟩) xs.length cap ∧ base ≤ g ∧ g < w.heap.size ∧ xs.length ≤ cap ∧ cap ≤ 9223372036854775807 := by
  rcases h.1.2 with ⟨h1, h2⟩ | ⟨g, cap, cur, h1, h2, h3, h4, h5, _⟩
  · exact .inl ⟨h1, List.eq_nil_of_length_eq_zero h2⟩
  · exact .inr ⟨g, cap, h1, h2, (Array.getElem?_eq_some_iff.1 h3).1, h4, by unfold maxLen at h5; omega⟩

theorem OwnI.cell {e base : Nat} {w : World} {g n cap : Nat} {xs : List Int} (h : OwnI e base w (.slice (some ⟨g, 0, none⟩) n cap) xs) {i : Nat} (hi : i < xs.length) :
    w.cell? ⟨g, i, none⟩ = some (.int .i64 (nth xs i)) := by
  have hn : n = xs.length := by
    rcases h.1.2 with ⟨h1, _⟩ | ⟨g', cap', cur, h1, _⟩
    · cases h1
    · cases h1; rfl
  subst hn
  rw [h.1.cellAt i (by omega), nth_lt hi]
  simp [hi]
theorem OwnI.frozen {e base : Nat} {w : World} {g n cap : Nat} {xs : List Int} (h : OwnI e base w (.slice (some ⟨g, 0, none⟩) n cap) xs) (i : Nat) : w.frozen? ⟨g, i, none⟩ = false := by
  have hn : n = xs.length := by
    rcases h.1.2 with ⟨h1, _⟩ | ⟨g', cap', cur, h1, _⟩
    · cases h1
    · cases h1; rfl
  subst hn
  exact h.1.frozenAt i

theorem OwnI.set {e base : Nat} {w : World} {g n cap : Nat} {xs : List Int} (h : OwnI e base w (.slice (some ⟨g, 0, none⟩) n cap) xs) (i : Nat) (x : Int) (hx : I64 x) :
    OwnI e base (w.setCell ⟨g, i, none⟩ (.int .i64 x)) (.slice (some ⟨g, 0, none⟩) n cap) (xs.set i x) := by
  have hn : n = xs.length := by
    rcases h.1.2 with ⟨h1, _⟩ | ⟨g', cap', cur, h1, _⟩
    · cases h1
    · cases h1; rfl
  subst hn
  refine ⟨?_, ?_⟩
  · have := h.1.stored i (.int .i64 x)
    rw [List.length_set, List.map_set]
    exact this.1
  · intro y hy
    rcases List.mem_or_eq_of_mem_set hy with h1 | h1
    · exact h.2 y h1
    · rw [h1]; exact hx

theorem OwnI.ints {e base : Nat} {w : World} {v : Value} {xs : List Int} (h : OwnI e base w v xs) : Ints w v xs := by
  rcases h.form with ⟨rfl, rfl⟩ | ⟨g, cap, rfl, _, _, h3, h4⟩
  · exact Ints.nil w
  · exact ⟨some ⟨g, 0, none⟩, cap, rfl, h3, by unfold maxLen; omega, h.2, (fun h => by cases h), fun i hi => ⟨g, 0, rfl, by rw [Nat.zero_add]; exact h.cell hi⟩⟩

/-- a literal that was laid last -/
theorem OwnI.lit {w : World} {H n m base e : Nat} {xs : List Int} {cs : Array Value} (hH : w.heap.size = H) (hn : n = xs.length) (hm : m = xs.length) (hcs : cs.toList = xs.map (Value.int .i64)) (hI : ∀ x ∈ xs, I64 x) (hl : xs.length ≤ 1000) (hb : base ≤ w.heap.size) :
    OwnI e base (w.alloc (.cells cs e)) (.slice (some ⟨H, 0, none⟩) n m) xs := by
  subst hH hn hm
  have h1 : cs.size = xs.length := by rw [← Array.length_toList, hcs]; simp
  refine ⟨⟨by simp, .inr ⟨w.heap.size, xs.length, cs, rfl, hb, heap_alloc_new w _, Nat.le_refl _, by unfold maxLen; omega, by omega, ?_⟩⟩, hI⟩
  rw [hcs, List.take_of_length_le (by simp)]

theorem replicate_i64 (n : Nat) : ∀ x ∈ List.replicate n (0 : Int), I64 x := fun x hx => by
  rw [(List.mem_replicate.1 hx).2]; unfold I64; omega

section
variable {P : Program} {t e : TypeId}
/-- 'make([]int, n)' -/
theorem mk_ints (T : IntTy P t e) {w : World} {ops : Array Oper} {rest : List Oper} {o : Oper} {a : Act} {Q : Exit → Act → World → Prop} (l c : Operand)
    (base : Nat) (n : Nat) (L C : Int) (hg : o.guard = none) (hop : o.op = Op.makeSlice t l c) (hl : a.eval l = .int .i64 L) (hc : a.eval c = .int .i64 C) (hL : L = (n : Int)) (hC : C = (n : Int)) (hn : n ≤ 35184372088832) (hbase : base ≤ w.heap.size)
    (hK : ∀ w', OwnI e base w' (.slice (some ⟨w.heap.size, 0, none⟩) n n) (List.replicate n 0) → Gr w w' → w.heap.size < w'.heap.size →
      wpList P ops Q rest (a.put o.dst (.slice (some ⟨w.heap.size, 0, none⟩) n n)) w') : wpList P ops Q (o :: rest) a w := by
  obtain ⟨i, hi, hz, hs, hb⟩ := info_parts T.info
  refine wpList_make_full w hg l c t hop base e i _ 1 T.und hi hz hs .i64 .i64 L C n hl hc hL hC (by rw [hb]; omega) (by unfold maxLen; omega) hbase fun w' ho hgr => ?_
  refine hK w' ⟨?_, replicate_i64 n⟩ ⟨hgr.os, hgr.tape, hgr.output, hgr.size, fun k hk => hgr.block k hk (by simp)⟩ ?_
  · simp only [Value.cells, Nat.mul_one, toList_madeCells_one] at ho
    simpa using ho
  · exact (ho.lt w.heap.size rfl).2

/-- 'append(out, ys...)' -/
theorem app_ints (T : IntTy P t e) {w : World} {ops : Array Oper} {rest : List Oper} {o : Oper} {a : Act} {Q : Exit → Act → World → Prop} (s x : Operand)
    (base : Nat) (v u : Value) (xs ys : List Int) (hg : o.guard = none) (hop : o.op = .call { callee := .builtin .append, args := #[s, x], argTypes := #[t, t] }) (hs : a.eval s = v) (hx : a.eval x = u) (hown : OwnI e base w v xs) (hsrc : Ints w u ys)
    (hn : xs.length + ys.length ≤ 17592186044416) (hbase : base ≤ w.heap.size)
    (hK : ∀ v' w', OwnI e base w' v' (xs ++ ys) → (∀ a : World, a.heap.size ≤ base → Gr a w → Gr a w') → w.grownBy w' v.ownBlock → (v'.ownBlock = v.ownBlock ∨ v'.ownBlock = some w.heap.size) → wpList P ops Q rest (a.put o.dst v') w') : wpList P ops Q (o :: rest) a w := by
  obtain ⟨i, hi, hz, hsz, hb⟩ := info_parts T.info
  rcases hsrc.form with ⟨rfl, rfl⟩ | ⟨ad, cap, rfl, _, _⟩
  · refine wpList_append_own_none hg s x t hop base e i 1 T.und hi v xs.length _ hs hown.1 hx ?_
    exact hK v w (by rw [List.append_nil]; exact hown) (fun _ _ h => h) ⟨rfl, rfl, rfl, Nat.le_refl _, fun _ _ _ => rfl⟩ (.inl rfl)
  · refine wpList_append_own_at w hg s x t hop base e i _ 1 8 T.und hi hz hsz hb rfl (by omega) v xs.length _ hs hown.1 ad ys.length cap (ys.map (Value.int .i64)) hx (by simp) ?_ (ints_oneCell _ _) (by unfold maxLen; omega) (by omega) hbase ?_
    · intro j u hj
      rw [List.getElem?_map] at hj
      obtain ⟨y, hy, rfl⟩ := Option.map_eq_some_iff.1 hj
      have hjl : j < ys.length := (List.getElem?_eq_some_iff.1 hy).1
      rw [hsrc.adds hjl, nth_lt hjl]
      rw [List.getElem?_eq_getElem hjl] at hy
      cases hy; rfl
    · intro v' w' ho hgr _ hat
      have hall : ∀ y ∈ ys, I64 y := by
        obtain ⟨_, _, _, _, _, h4, _⟩ := hsrc
        exact h4
      refine hK v' w' ⟨by simpa using ho, ?_⟩ ?_ hgr hat
      · intro z hz
        rcases List.mem_append.1 hz with h1 | h1
        · exact hown.2 z h1
        · exact hall z h1
      · intro a hB hb
        exact hb.grown hgr fun k hk => Nat.le_trans hB (hown.lt hk).1

/-- 'append(out, x)' -/
theorem app_int (T : IntTy P t e) {w : World} {ops : Array Oper} {rest : List Oper} {o : Oper} {a : Act} {Q : Exit → Act → World → Prop} (s x : Operand)
    (base : Nat) (v : Value) (xs : List Int) (ad : Addr) (y : Int) (hg : o.guard = none) (hop : o.op = .call { callee := .builtin .append, args := #[s, x], argTypes := #[t, t] }) (hs : a.eval s = v) (hx : a.eval x = .slice (some ad) 1 1) (hown : OwnI e base w v xs) (hcell : w.cell? ad = some (.int .i64 y)) (hy : I64 y)
    (hn : xs.length + 1 ≤ 17592186044416) (hbase : base ≤ w.heap.size)
    (hK : ∀ v' w', OwnI e base w' v' (xs ++ [y]) → (∀ a : World, a.heap.size ≤ base → Gr a w → Gr a w') → w.grownBy w' v.ownBlock → (v'.ownBlock = v.ownBlock ∨ v'.ownBlock = some w.heap.size) → wpList P ops Q rest (a.put o.dst v') w') : wpList P ops Q (o :: rest) a w := by
  obtain ⟨i, hi, hz, hsz, hb⟩ := info_parts T.info
  refine wpList_append_own_at w hg s x t hop base e i _ 1 8 T.und hi hz hsz hb rfl (by omega) v xs.length _ hs hown.1 ad 1 1 [.int .i64 y] hx rfl ?_ (by simp [Value.oneCell']) (by unfold maxLen; omega) (by omega) hbase ?_
  · intro j u hj
    cases j with
    | zero => simp at hj; subst hj; rw [show ad.add 0 = ad by unfold Addr.add; split <;> simp_all]; exact hcell
    | succ j => simp at hj
  · intro v' w' ho hgr _ hat
    refine hK v' w' ⟨by simpa using ho, ?_⟩ ?_ hgr hat
    · intro z hz
      rcases List.mem_append.1 hz with h1 | h1
      · exact hown.2 z h1
      · rw [List.mem_singleton.1 h1]; exact hy
    · intro a hB hb
      exact hb.grown hgr fun k hk => Nat.le_trans hB (hown.lt hk).1
end

/-! ### zip of two markings -/

def rightB (xs : List Int) : Bool := !(xs.any fun n => decide (n < 0) || decide (n > 1000000))
theorem rightB_def (xs : List Int) : rightB xs = !(xs.any fun n => decide (n < 0) || decide (n > 1000000)) := rfl
theorem rightB_iff (xs : List Int) : rightB xs = true ↔ ∀ x ∈ xs, 0 ≤ x ∧ x ≤ 1000000 := by
  unfold rightB
  rw [Bool.not_eq_true', List.any_eq_false]
  constructor
  · intro h x hx
    have := h x hx
    simp at this
    omega
  · intro h x hx
    have := h x hx
    simp
    omega
theorem rightB_nth {xs : List Int} (h : rightB xs = true) (p : Nat) : 0 ≤ nth xs p ∧ nth xs p ≤ 1000000 := by
  by_cases hp : p < xs.length
  · rw [nth_lt hp]; exact (rightB_iff xs).1 h _ (List.getElem_mem hp)
  · rw [nth_ge (by omega)]; omega

def zipB (f : Int → Int → Int × Int) (xs ys : List Int) : List Int × Int :=
  match (List.range (max xs.length ys.length)).find? (fun p => decide ((f (nth xs p) (nth ys p)).2 ≠ 0)) with
  | some p => ([], (f (nth xs p) (nth ys p)).2)
  | none => ((List.range (max xs.length ys.length)).map fun p => (f (nth xs p) (nth ys p)).1, 0)

def zipF (f : Int → Int → Int × Int) (xs ys : List Int) : List Int × Int := if rightB xs && rightB ys then zipB f xs ys else ([], 2)

def AllOk (f : Int → Int → Int × Int) (xs ys : List Int) (k : Nat) : Prop := ∀ p, p < k → (f (nth xs p) (nth ys p)).2 = 0
theorem AllOk.intro {f : Int → Int → Int × Int} {xs ys : List Int} {k : Nat} (h : ∀ p, p < k → (f (nth xs p) (nth ys p)).2 = 0) : AllOk f xs ys k := h
theorem AllOk.zero (f : Int → Int → Int × Int) (xs ys : List Int) : AllOk f xs ys 0 := fun p hp => by omega
theorem AllOk.succ {f : Int → Int → Int × Int} {xs ys : List Int} {k : Nat} (h : AllOk f xs ys k) (hk : (f (nth xs k) (nth ys k)).2 = 0) : AllOk f xs ys (k + 1) := fun p hp => by
  rcases Nat.lt_or_ge p k with h1 | h1
  · exact h p h1
  · obtain rfl : p = k := by omega
    exact hk

theorem find_range_hit {p : Nat → Bool} {n k : Nat} (hk : k < n) (h : ∀ i, i < k → p i = false) (hp : p k = true) : (List.range n).find? p = some k := by
  rw [List.find?_range_eq_some]
  exact ⟨hp, by simpa using hk, fun j hj => by simp [h j hj]⟩
theorem find_range_miss {p : Nat → Bool} {n : Nat} (h : ∀ i, i < n → p i = false) : (List.range n).find? p = none := by
  rw [List.find?_range_eq_none]
  exact fun i hi => by simp [h i hi]

theorem zipB_bad {f : Int → Int → Int × Int} {xs ys : List Int} {k : Nat} (h : AllOk f xs ys k) (hk : k < max xs.length ys.length) (hp : (f (nth xs k) (nth ys k)).2 ≠ 0) :
    zipB f xs ys = ([], (f (nth xs k) (nth ys k)).2) := by
  unfold zipB
  rw [find_range_hit hk (fun i hi => by simp [h i hi]) (by simp [hp])]
theorem zipB_good {f : Int → Int → Int × Int} {xs ys : List Int} {k : Nat} (h : AllOk f xs ys k) (hk : max xs.length ys.length ≤ k) :
    zipB f xs ys = ((List.range (max xs.length ys.length)).map fun p => (f (nth xs p) (nth ys p)).1, 0) := by
  unfold zipB
  rw [find_range_miss (fun i hi => by simp [h i (by omega)])]

/-- a row of n places, of which the first k are filled -/
def fillTo (val : Nat → Int) (n k : Nat) : List Int := (List.range n).map fun p => if p < k then val p else 0
theorem fillTo_zero (val : Nat → Int) (n : Nat) : List.replicate n 0 = fillTo val n 0 := by
  apply List.ext_getElem <;> simp [fillTo]
theorem fillTo_set (val : Nat → Int) (n k : Nat) : (fillTo val n k).set k (val k) = fillTo val n (k + 1) := by
  apply List.ext_getElem
  · simp [fillTo]
  · intro i h1 h2
    simp only [fillTo, List.getElem_set, List.getElem_map, List.getElem_range]
    by_cases h : k = i
    · subst h; simp
    · rw [if_neg h]
      by_cases h3 : i < k
      · rw [if_pos h3, if_pos (by omega)]
      · rw [if_neg h3, if_neg (by omega)]
theorem fillTo_all (val : Nat → Int) {n k : Nat} (h : n ≤ k) : fillTo val n k = (List.range n).map val := by
  unfold fillTo
  apply List.map_congr_left
  intro i hi
  rw [if_pos (by have := List.mem_range.1 hi; omega)]
theorem fillTo_length (val : Nat → Int) (n k : Nat) : (fillTo val n k).length = n := by simp [fillTo]

/-- the function g of the program, bound to lb, answers f of two numbers from 0 to 1000000, and leaves the world as it was -/
def Answers2 (P : Program) (g : Nat) (lb : Array Value) (f : Int → Int → Int × Int) : Prop :=
  ∀ (W : World) (x y : Int), 0 ≤ x → x ≤ 1000000 → 0 ≤ y → y ≤ 1000000 → Calls P g (#[.int .i64 x, .int .i64 y] ++ lb) W fun e w' => e = .returned (.tuple #[.int .i64 (f x y).1, .int .i64 (f x y).2]) ∧ W = w'

/-- what a call that hands back a list and an error leaves -/
def RetIE (w : World) (r : List Int × Int) (e : Ending) (w' : World) : Prop :=
  ∃ v, e = .returned (.tuple #[v, .int .i64 r.2]) ∧ Ints w' v r.1 ∧ Gr w w'
theorem RetIE.mk {w w' : World} {v : Value} {x : Int} {r : List Int × Int} {xs : List Int} (hr : r = (xs, x)) (hv : Ints w' v xs) (hb : Gr w w') : RetIE w r (.returned (.tuple #[v, .int .i64 x])) w' := by
  subst hr
  exact ⟨v, rfl, hv, hb⟩
/-! ### equality, search, of lists -/
def eqUpto (xs ys : List Int) (k : Nat) : Prop := ∀ i, i < k → nth xs i = nth ys i
theorem eqUpto.zero (xs ys : List Int) : eqUpto xs ys 0 := fun i hi => by omega
theorem eqUpto.succ {xs ys : List Int} {k : Nat} (h : eqUpto xs ys k) (hk : nth xs k = nth ys k) : eqUpto xs ys (k + 1) := fun p hp => by
  rcases Nat.lt_or_ge p k with h1 | h1
  · exact h p h1
  · obtain rfl : p = k := by omega
    exact hk
theorem eqUpto.all {xs ys : List Int} {k : Nat} (h : eqUpto xs ys k) (hl : xs.length = ys.length) (hk : xs.length ≤ k) : xs = ys := by
  apply List.ext_getElem hl
  intro i h1 h2
  have := h i (by omega)
  rwa [nth_lt h1, nth_lt h2] at this
def eqB (xs ys : List Int) : Bool := decide (xs = ys)
theorem eqB_iff (xs ys : List Int) : eqB xs ys = true ↔ xs = ys := by simp [eqB]
theorem eqB_len {xs ys : List Int} (h : xs.length ≠ ys.length) : eqB xs ys = false := by
  simp only [eqB, decide_eq_false_iff_not]; intro e; rw [e] at h; exact h rfl
theorem eqB_no {xs ys : List Int} {k : Nat} (h : nth xs k ≠ nth ys k) : eqB xs ys = false := by
  simp only [eqB, decide_eq_false_iff_not]; intro e; rw [e] at h; exact h rfl
theorem eqB_yes {xs ys : List Int} (h : xs = ys) : eqB xs ys = true := by simp [eqB, h]
def hasB (xs : List Int) (x : Int) : Bool := xs.any fun y => decide (x = y)
theorem hasB_iff (xs : List Int) (x : Int) : hasB xs x = true ↔ x ∈ xs := by simp [hasB]
theorem hasB_def (xs : List Int) (x : Int) : hasB xs x = xs.any fun y => decide (x = y) := rfl

attribute [irreducible] eqUpto eqB hasB
attribute [irreducible] Ints Gr OwnI coversB sameB rightB zipB zipF nth CovUpto NoneUpto AllOk fillTo firstOf
end Go.Tok

/- Plain laws of the markings' arithmetic. No program is in sight here. -/
namespace Go.Tok

def plusf (x y : Int) : Int × Int := if x + y > 1000000 then (0, 4) else (x + y, 0)
def minusf (x y : Int) : Int × Int := if x < y then (0, 3) else (x - y, 0)

theorem nth_map_range (g : Nat → Int) (n p : Nat) : nth ((List.range n).map g) p = if p < n then g p else 0 := by
  by_cases h : p < n
  · rw [if_pos h, nth_lt (by simpa using h)]; simp
  · rw [if_neg h, nth_ge (by simpa using h)]

theorem ext_nth {xs ys : List Int} (hl : xs.length = ys.length) (h : ∀ p, p < xs.length → nth xs p = nth ys p) : xs = ys := by
  apply List.ext_getElem hl
  intro i h1 h2
  have := h i h1
  rwa [nth_lt h1, nth_lt h2] at this

theorem right_of_nth {xs : List Int} (h : ∀ p, p < xs.length → 0 ≤ nth xs p ∧ nth xs p ≤ 1000000) : rightB xs = true := by
  rw [rightB_iff]
  intro x hx
  obtain ⟨i, hi, rfl⟩ := List.getElem_of_mem hx
  have := h i hi
  rwa [nth_lt hi] at this

/-- what zip makes where each place is well -/
theorem zipF_ok {f : Int → Int → Int × Int} {a b : List Int} (ha : rightB a = true) (hb : rightB b = true) (h0 : (f 0 0).1 = 0) (h : ∀ p, p < max a.length b.length → (f (nth a p) (nth b p)).2 = 0) :
    ∃ L, zipF f a b = (L, 0) ∧ L.length = max a.length b.length ∧ ∀ p, nth L p = (f (nth a p) (nth b p)).1 := by
  refine ⟨(List.range (max a.length b.length)).map fun p => (f (nth a p) (nth b p)).1, ?_, by simp, fun p => ?_⟩
  · have : zipF f a b = zipB f a b := by unfold zipF; simp [ha, hb]
    rw [this]
    exact zipB_good (k := max a.length b.length) (AllOk.intro h) (Nat.le_refl _)
  · rw [nth_map_range]
    split
    · rfl
    · rw [nth_ge (by omega), nth_ge (by omega), h0]

/-- what zip makes where some place is not -/
theorem zipF_bad {f : Int → Int → Int × Int} {a b : List Int} {c : Int} (ha : rightB a = true) (hb : rightB b = true) (hc : ∀ x y, (f x y).2 = 0 ∨ (f x y).2 = c) {p : Nat} (hp : p < max a.length b.length) (h : (f (nth a p) (nth b p)).2 ≠ 0) :
    zipF f a b = ([], c) := by
  have e : zipF f a b = zipB f a b := by unfold zipF; simp [ha, hb]
  rw [e]
  unfold zipB
  have : ∃ q, (List.range (max a.length b.length)).find? (fun p => decide ((f (nth a p) (nth b p)).2 ≠ 0)) = some q := by
    rw [← Option.isSome_iff_exists, List.find?_isSome]
    exact ⟨p, List.mem_range.2 hp, by simp [h]⟩
  obtain ⟨q, hq⟩ := this
  rw [hq]
  have h1 := List.find?_some hq
  simp at h1
  rcases hc (nth a q) (nth b q) with h2 | h2
  · exact absurd h2 h1
  · simp only [h2]

theorem zipF_wrong {f : Int → Int → Int × Int} {a b : List Int} (h : rightB a = false ∨ rightB b = false) : zipF f a b = ([], 2) := by
  unfold zipF
  rcases h with h | h <;> simp [h]

theorem plusf_err (x y : Int) : (plusf x y).2 = 0 ∨ (plusf x y).2 = 4 := by unfold plusf; split <;> simp
theorem minusf_err (x y : Int) : (minusf x y).2 = 0 ∨ (minusf x y).2 = 3 := by unfold minusf; split <;> simp
theorem plusf_ok {x y : Int} (h : x + y ≤ 1000000) : plusf x y = (x + y, 0) := if_neg (by omega)
theorem plusf_bad {x y : Int} (h : 1000000 < x + y) : plusf x y = (0, 4) := if_pos (by omega)
theorem minusf_ok {x y : Int} (h : y ≤ x) : minusf x y = (x - y, 0) := if_neg (by omega)
theorem minusf_bad {x y : Int} (h : x < y) : minusf x y = (0, 3) := if_pos h

theorem plus_ok {a b : List Int} (ha : rightB a = true) (hb : rightB b = true) (h : ∀ p, nth a p + nth b p ≤ 1000000) :
    ∃ L, zipF plusf a b = (L, 0) ∧ L.length = max a.length b.length ∧ (∀ p, nth L p = nth a p + nth b p) ∧ rightB L = true := by
  obtain ⟨L, h1, h2, h3⟩ := zipF_ok (f := plusf) ha hb (by decide) (fun p _ => by rw [plusf_ok (h p)])
  have h4 : ∀ p, nth L p = nth a p + nth b p := fun p => by rw [h3, plusf_ok (h p)]
  refine ⟨L, h1, h2, h4, right_of_nth fun p _ => ?_⟩
  have := rightB_nth ha p
  have := rightB_nth hb p
  have := h p
  rw [h4]; omega
theorem plus_full {a b : List Int} (ha : rightB a = true) (hb : rightB b = true) {p : Nat} (h : 1000000 < nth a p + nth b p) : zipF plusf a b = ([], 4) := by
  have hp : p < max a.length b.length := by
    rcases Nat.lt_or_ge p (max a.length b.length) with h1 | h1
    · exact h1
    · rw [nth_ge (by omega), nth_ge (by omega)] at h; omega
  exact zipF_bad ha hb plusf_err hp (by rw [plusf_bad h]; decide)
theorem minus_ok {a b : List Int} (ha : rightB a = true) (hb : rightB b = true) (h : ∀ p, nth b p ≤ nth a p) :
    ∃ L, zipF minusf a b = (L, 0) ∧ L.length = max a.length b.length ∧ (∀ p, nth L p = nth a p - nth b p) ∧ rightB L = true := by
  obtain ⟨L, h1, h2, h3⟩ := zipF_ok (f := minusf) ha hb (by decide) (fun p _ => by rw [minusf_ok (h p)])
  have h4 : ∀ p, nth L p = nth a p - nth b p := fun p => by rw [h3, minusf_ok (h p)]
  refine ⟨L, h1, h2, h4, right_of_nth fun p _ => ?_⟩
  have := rightB_nth ha p
  have := rightB_nth hb p
  have := h p
  rw [h4]; omega
theorem minus_none {a b : List Int} (ha : rightB a = true) (hb : rightB b = true) {p : Nat} (h : nth a p < nth b p) : zipF minusf a b = ([], 3) := by
  have hp : p < max a.length b.length := by
    rcases Nat.lt_or_ge p (max a.length b.length) with h1 | h1
    · exact h1
    · rw [nth_ge (by omega), nth_ge (by omega)] at h; omega
  exact zipF_bad ha hb minusf_err hp (by rw [minusf_bad h]; decide)

theorem bool_cases (b : Bool) : b = true ∨ b = false := by cases b <;> simp

/-- three ways of a sum -/
theorem plus_cases (a b : List Int) : (zipF plusf a b = ([], 2) ∧ (rightB a = false ∨ rightB b = false)) ∨ (zipF plusf a b = ([], 4) ∧ rightB a = true ∧ rightB b = true ∧ ∃ p, 1000000 < nth a p + nth b p) ∨
    (rightB a = true ∧ rightB b = true ∧ (∀ p, nth a p + nth b p ≤ 1000000) ∧ ∃ L, zipF plusf a b = (L, 0) ∧ L.length = max a.length b.length ∧ (∀ p, nth L p = nth a p + nth b p) ∧ rightB L = true) := by
  rcases bool_cases (rightB a) with ha | ha
  · rcases bool_cases (rightB b) with hb | hb
    · rcases Classical.em (∀ p, nth a p + nth b p ≤ 1000000) with h | h
      · exact .inr (.inr ⟨ha, hb, h, plus_ok ha hb h⟩)
      · obtain ⟨p, hp⟩ := Classical.not_forall.1 h
        exact .inr (.inl ⟨plus_full ha hb (p := p) (by omega), ha, hb, p, by omega⟩)
    · exact .inl ⟨zipF_wrong (.inr hb), .inr hb⟩
  · exact .inl ⟨zipF_wrong (.inl ha), .inl ha⟩
theorem minus_cases (a b : List Int) : (zipF minusf a b = ([], 2) ∧ (rightB a = false ∨ rightB b = false)) ∨ (zipF minusf a b = ([], 3) ∧ rightB a = true ∧ rightB b = true ∧ ∃ p, nth a p < nth b p) ∨
    (rightB a = true ∧ rightB b = true ∧ (∀ p, nth b p ≤ nth a p) ∧ ∃ L, zipF minusf a b = (L, 0) ∧ L.length = max a.length b.length ∧ (∀ p, nth L p = nth a p - nth b p) ∧ rightB L = true) := by
  rcases bool_cases (rightB a) with ha | ha
  · rcases bool_cases (rightB b) with hb | hb
    · rcases Classical.em (∀ p, nth b p ≤ nth a p) with h | h
      · exact .inr (.inr ⟨ha, hb, h, minus_ok ha hb h⟩)
      · obtain ⟨p, hp⟩ := Classical.not_forall.1 h
        exact .inr (.inl ⟨minus_none ha hb (p := p) (by omega), ha, hb, p, by omega⟩)
    · exact .inl ⟨zipF_wrong (.inr hb), .inr hb⟩
  · exact .inl ⟨zipF_wrong (.inl ha), .inl ha⟩

/-- the errors of a sum do not hang on the order -/
theorem sums_bad {a b : List Int} {e : Int} {L : List Int} (h : zipF plusf a b = (L, e)) (he : e ≠ 0) : L = [] ∧ (e = 2 ∨ e = 4) ∧ zipF plusf b a = ([], e) := by
  rcases plus_cases a b with ⟨h1, h2⟩ | ⟨h1, ha, hb, p, hp⟩ | ⟨_, _, _, L', h1, _⟩
  · rw [h1] at h; cases h
    exact ⟨rfl, .inl rfl, zipF_wrong h2.symm⟩
  · rw [h1] at h; cases h
    exact ⟨rfl, .inr rfl, plus_full hb ha (p := p) (by omega)⟩
  · rw [h1] at h; cases h
    exact absurd rfl he

structure SumsGood (a b : List Int) (X Y Z : List Int) : Prop where
  hX : zipF plusf a b = (X, 0)
  hY : zipF plusf b a = (Y, 0)
  hXY : sameB X Y = true
  hZ : zipF minusf X b = (Z, 0)
  hZa : sameB Z a = true
  hc : coversB X a = true
  lX : X.length = max a.length b.length
  lY : Y.length = max a.length b.length
  lZ : Z.length = max a.length b.length

theorem sums_good {a b : List Int} {L : List Int} (h : zipF plusf a b = (L, 0)) : ∃ Y Z, SumsGood a b L Y Z := by
  rcases plus_cases a b with ⟨h1, h2⟩ | ⟨h1, ha, hb, p, hp⟩ | ⟨ha, hb, hs, L', h1, h2, h3, h4⟩
  · rw [h1] at h; cases h
  · rw [h1] at h; cases h
  · rw [h1] at h; cases h
    obtain ⟨Y, y1, y2, y3, y4⟩ := plus_ok hb ha fun p => by have := hs p; omega
    obtain ⟨Z, z1, z2, z3, z4⟩ := minus_ok h4 hb fun p => by rw [h3]; have := rightB_nth ha p; omega
    refine ⟨Y, Z, h1, y1, (sameB_iff _ _).2 fun p => by rw [h3, y3]; omega, z1, (sameB_iff _ _).2 fun p => by rw [z3, h3]; omega, (coversB_iff _ _).2 fun p => ?_, h2, by omega, by omega⟩
    rw [h3]; have := rightB_nth hb p; omega

/-- three together -/
theorem sums_three {a b c X U : List Int} (hX : zipF plusf a b = (X, 0)) (hU : zipF plusf X c = (U, 0)) : ∃ V W, zipF plusf b c = (V, 0) ∧ zipF plusf a V = (W, 0) ∧ sameB U W = true := by
  rcases plus_cases a b with ⟨h1, h2⟩ | ⟨h1, ha, hb, p, hp⟩ | ⟨ha, hb, hs, L', h1, h2, h3, h4⟩
  · rw [h1] at hX; cases hX
  · rw [h1] at hX; cases hX
  · rw [h1] at hX; cases hX
    rcases plus_cases X c with ⟨k1, k2⟩ | ⟨k1, ka, kb, p, hp⟩ | ⟨_, hc, ks, U', k1, k2, k3, k4⟩
    · rw [k1] at hU; cases hU
    · rw [k1] at hU; cases hU
    · rw [k1] at hU; cases hU
      obtain ⟨V, v1, v2, v3, v4⟩ := plus_ok hb hc fun p => by
        have h5 := ks p
        rw [h3] at h5
        have := rightB_nth ha p
        omega
      obtain ⟨W, w1, w2, w3, w4⟩ := plus_ok ha v4 fun p => by
        have h5 := ks p
        rw [h3] at h5
        rw [v3]; omega
      exact ⟨V, W, v1, w1, (sameB_iff _ _).2 fun p => by rw [k3, h3, w3, v3]; omega⟩

theorem zip_len (f : Int → Int → Int × Int) (a b : List Int) : (zipF f a b).1.length ≤ max a.length b.length := by
  unfold zipF
  split
  · unfold zipB; split <;> simp
  · simp
theorem covers_refl (a : List Int) : coversB a a = true := (coversB_iff _ _).2 fun _ => Int.le_refl _
theorem covers_trans {a b c : List Int} (h1 : coversB a b = true) (h2 : coversB b c = true) : coversB a c = true :=
  (coversB_iff _ _).2 fun p => Int.le_trans ((coversB_iff _ _).1 h2 p) ((coversB_iff _ _).1 h1 p)
theorem same_covers (a b : List Int) : sameB a b = (coversB a b && coversB b a) := by unfold sameB; rfl
/-- what is left, and put back -/
theorem minus_plus {a b : List Int} (ha : rightB a = true) (hb : rightB b = true) (h : coversB a b = true) : ∃ L Y, zipF minusf a b = (L, 0) ∧ zipF plusf L b = (Y, 0) ∧ sameB Y a = true ∧ L.length = max a.length b.length := by
  obtain ⟨L, l1, l2, l3, l4⟩ := minus_ok ha hb ((coversB_iff _ _).1 h)
  obtain ⟨Y, y1, y2, y3, y4⟩ := plus_ok l4 hb fun p => by rw [l3]; have := rightB_nth ha p; omega
  exact ⟨L, Y, l1, y1, (sameB_iff _ _).2 fun p => by rw [y3, l3]; omega, l2⟩
theorem minus_not {a b : List Int} (ha : rightB a = true) (hb : rightB b = true) (h : coversB a b = false) : zipF minusf a b = ([], 3) := by
  rcases minus_cases a b with ⟨_, h2 | h2⟩ | ⟨h1, _⟩ | ⟨_, _, h3, _⟩
  · rw [ha] at h2; cases h2
  · rw [hb] at h2; cases h2
  · exact h1
  · rw [(coversB_iff _ _).2 h3] at h; cases h
attribute [irreducible] plusf minusf
end Go.Tok

/- Rows of elements of whatever kind: how they read, and rows that a call makes itself; facts that hang on some blocks alone. No program is in sight here. -/
namespace Go.Tok
open Go.RowKit
set_option linter.unusedVariables false

/-! ### facts that hang on some blocks alone -/
/-- the blocks of S that lie in w stand in w' as they stood -/
def Kp (S : Nat → Prop) (w w' : World) : Prop := w.heap.size ≤ w'.heap.size ∧ ∀ b, b < w.heap.size → S b → w'.heap[b]? = w.heap[b]?
def All : Nat → Prop := fun _ => True
theorem Kp.refl (S : Nat → Prop) (w : World) : Kp S w w := ⟨Nat.le_refl _, fun _ _ _ => rfl⟩
theorem Kp.trans {S : Nat → Prop} {a b c : World} (h : Kp S a b) (k : Kp S b c) : Kp S a c :=
  ⟨Nat.le_trans h.1 k.1, fun i hi hs => (k.2 i (Nat.lt_of_lt_of_le hi h.1) hs).trans (h.2 i hi hs)⟩
theorem Kp.mono {S S' : Nat → Prop} {w w' : World} (h : Kp S w w') (hs : ∀ b, b < w.heap.size → S' b → S b) : Kp S' w w' := ⟨h.1, fun b hb hb' => h.2 b hb (hs b hb hb')⟩
theorem Gr.kp {S : Nat → Prop} {w w' : World} (g : Gr w w') : Kp S w w' := ⟨g.le, fun b hb _ => g.below.block b hb⟩
theorem grown_kp {S : Nat → Prop} {w w' : World} {row : Option Nat} (g : w.grownBy w' row) (h : ∀ b, S b → some b ≠ row) : Kp S w w' := ⟨g.size, fun b hb hs => g.block b hb (h b hs)⟩
theorem set_kp {S : Nat → Prop} {w : World} {a : Addr} (h : ¬ S a.block) (u : Value) : Kp S w (w.setCell a u) :=
  ⟨by simp [World.setCell], fun b _ hs => Below.heap_setCell w a u b (fun e => h (e ▸ hs))⟩

/-- p holds of w, and of every world in which the blocks of S stand as in w -/
def On (S : Nat → Prop) (p : World → Prop) (w : World) : Prop := ∀ w', Kp S w w' → p w'
theorem On.now {S : Nat → Prop} {p : World → Prop} {w : World} (h : On S p w) : p w := h w (Kp.refl _ _)
theorem On.kp {S : Nat → Prop} {p : World → Prop} {w w' : World} (h : On S p w) (k : Kp S w w') : On S p w' := fun w'' k' => h w'' (k.trans k')
theorem On.moved {S S' : Nat → Prop} {p : World → Prop} {w w' : World} (h : On S p w) (hs : w.heap.size ≤ w'.heap.size) (hk : ∀ b, b < w.heap.size → S b → S' b ∧ w'.heap[b]? = w.heap[b]?) : On S' p w' :=
  fun w'' k => h w'' ⟨Nat.le_trans hs k.1, fun b hb hb' => by
    obtain ⟨h1, h2⟩ := hk b hb hb'
    exact (k.2 b (Nat.lt_of_lt_of_le hb hs) h1).trans h2⟩
theorem On.mono {S S' : Nat → Prop} {p : World → Prop} {w : World} (h : On S p w) (hs : ∀ b, b < w.heap.size → S b → S' b) : On S' p w := h.moved (Nat.le_refl _) fun b hb hb' => ⟨hs b hb hb', rfl⟩
theorem On.imp {S : Nat → Prop} {p q : World → Prop} {w : World} (h : On S p w) (hpq : ∀ w, p w → q w) : On S q w := fun w' k => hpq _ (h w' k)
theorem On.and {S : Nat → Prop} {p q : World → Prop} {w : World} (h : On S p w) (k : On S q w) : On S (fun w => p w ∧ q w) w := fun w' k' => ⟨h w' k', k w' k'⟩
theorem On.true {S : Nat → Prop} {p : Prop} {w : World} (h : p) : On S (fun _ => p) w := fun _ _ => h
/-- what holds of an earlier world hangs on that world's blocks -/
theorem on_old {p : World → Prop} (hp : ∀ w w', Kp All w w' → p w → p w') {w0 w : World} (h : p w0) (g : Kp (fun b => b < w0.heap.size) w0 w) : On (fun b => b < w0.heap.size) p w :=
  fun w' k => hp w0 w' ⟨Nat.le_trans g.1 k.1, fun b hb _ => (k.2 b (Nat.lt_of_lt_of_le hb g.1) hb).trans (g.2 b hb hb)⟩ h
theorem On.gr {S : Nat → Prop} {p : World → Prop} {w w' : World} (h : On S p w) (g : Gr w w') : On S p w' := h.kp g.kp

theorem cell_kp {S : Nat → Prop} {w w' : World} {a : Addr} {v : Value} (k : Kp S w w') (h : w.cell? a = some v) (hs : S a.block) : w'.cell? a = some v := by
  have hb := cell_block h
  have := k.2 a.block hb hs
  unfold World.cell? at *
  rw [this]; exact h
theorem Ints.kp {w w' : World} {v : Value} {xs : List Int} (h : Ints w v xs) (k : Kp All w w') : Ints w' v xs := by
  unfold Ints at *
  obtain ⟨a, cap, h1, h2, h3, h4, h6, h5⟩ := h
  refine ⟨a, cap, h1, h2, h3, h4, h6, fun i hi => ?_⟩
  obtain ⟨b, o, ha, hc⟩ := h5 i hi
  exact ⟨b, o, ha, cell_kp k hc trivial⟩
theorem Ints.on_own {e base : Nat} {w : World} {v : Value} {xs : List Int} (h : OwnI e base w v xs) : On (fun b => v.ownBlock = some b) (fun w => Ints w v xs) w := by
  intro w' k
  rcases h.form with ⟨rfl, rfl⟩ | ⟨g, cap, rfl, _, hg, hl, hc⟩
  · exact Ints.nil _
  · have h' := h.ints
    unfold Ints at *
    obtain ⟨a, cap', h1, h2, h3, h4, h6, h5⟩ := h'
    cases h1
    refine ⟨_, _, rfl, h2, h3, h4, h6, fun i hi => ?_⟩
    obtain ⟨b, o, hb, hcell⟩ := h5 i hi
    cases hb
    exact ⟨g, 0, rfl, cell_kp k hcell rfl⟩
theorem Ints.on_fresh {e base : Nat} {w : World} {v : Value} {xs : List Int} (h : OwnI e base w v xs) : On (fun b => base ≤ b) (fun w => Ints w v xs) w :=
  (Ints.on_own h).mono fun b _ hb => (h.lt hb).1

/-! ### kinds of elements -/
structure Kind (α : Type) where
  size : Nat
  R : World → List Value → α → Prop
  len : ∀ {w vs x}, R w vs x → vs.length = size
  one : ∀ {w vs x}, R w vs x → ∀ u ∈ vs, u.oneCell' = true
  mono : ∀ {w w' vs x}, Kp All w w' → R w vs x → R w' vs x
/-- an element that hangs on no memory -/
def flat {α : Type} (size : Nat) (cells : α → List Value) (ok : α → Prop) (h1 : ∀ x, (cells x).length = size) (h2 : ∀ x, ∀ u ∈ cells x, u.oneCell' = true) : Kind α :=
  ⟨size, fun _ vs x => vs = cells x ∧ ok x, fun h => by rw [h.1]; exact h1 _, fun h => by rw [h.1]; exact h2 _, fun _ h => h⟩
/-- rows of ints -/
def rowK : Kind (List Int) :=
  ⟨1, fun w vs x => ∃ u, vs = [u] ∧ Ints w u x, fun ⟨u, h, _⟩ => by rw [h]; rfl, fun ⟨u, h, hu⟩ => by
    subst h
    obtain ⟨a, cap, rfl, _⟩ := hu.len
    intro x hx; rw [List.mem_singleton.1 hx]; rfl, fun k ⟨u, h, hu⟩ => ⟨u, h, hu.kp k⟩⟩

section
variable {α : Type} [Inhabited α]
/-- the element at place i -/
def ix (xs : List α) (i : Nat) : α := xs.getD i default
theorem ix_lt {xs : List α} {i : Nat} (h : i < xs.length) : ix xs i = xs[i] := by simp [ix, h]
theorem ix_mem {xs : List α} {i : Nat} (h : i < xs.length) : ix xs i ∈ xs := by rw [ix_lt h]; exact List.getElem_mem h
theorem ix_some {xs : List α} {i : Nat} (h : i < xs.length) : xs[i]? = some (ix xs i) := by rw [ix_lt h]; exact List.getElem?_eq_getElem h
theorem ix_def (xs : List α) (i : Nat) : ix xs i = xs.getD i default := rfl
theorem ix_zero (a : α) (l : List α) : ix (a :: l) 0 = a := rfl
theorem ix_succ (a : α) (l : List α) (i : Nat) : ix (a :: l) (i + 1) = ix l i := by simp [ix]
theorem ix_ge {xs : List α} {i : Nat} (h : xs.length ≤ i) : ix xs i = default := by simp [ix, List.getD, List.getElem?_eq_none h]
theorem ix_take {xs : List α} {k i : Nat} (h : i < k) : ix (xs.take k) i = ix xs i := by simp [ix, List.getD, h]
theorem take_ix {xs : List α} {k : Nat} (h : k < xs.length) : xs.take (k + 1) = xs.take k ++ [ix xs k] := by rw [List.take_succ_eq_append_getElem h, ix_lt h]
theorem drop_ix {xs : List α} {k : Nat} (h : k < xs.length) : xs.drop k = ix xs k :: xs.drop (k + 1) := by rw [List.drop_eq_getElem_cons h, ix_lt h]
theorem ext_ix {xs ys : List α} (hl : xs.length = ys.length) (h : ∀ i, i < xs.length → ix xs i = ix ys i) : xs = ys := by
  apply List.ext_getElem hl
  intro i h1 h2
  have := h i h1
  rwa [ix_lt h1, ix_lt h2] at this

/-! ### rows that read -/
/-- v reads as the elements xs in w -/
def Rd (K : Kind α) (w : World) (v : Value) (xs : List α) : Prop :=
  ∃ a cap, v = .slice a xs.length cap ∧ xs.length ≤ cap ∧ cap ≤ maxLen ∧ (a = none → cap = 0) ∧
    ∀ i, i < xs.length → ∃ b o vs, a = some ⟨b, o, none⟩ ∧ K.R w vs (ix xs i) ∧ ∀ j u, vs[j]? = some u → w.cell? ⟨b, o + i * K.size + j, none⟩ = some u
variable {K : Kind α}
theorem rd_mk {w : World} {v : Value} {xs : List α} {a : Option Addr} {cap : Nat} (h1 : v = .slice a xs.length cap) (h2 : xs.length ≤ cap) (h3 : cap ≤ maxLen) (h4 : a = none → cap = 0) (h5 : ∀ i, i < xs.length → ∃ b o vs, a = some ⟨b, o, none⟩ ∧ K.R w vs (ix xs i) ∧ ∀ j u, vs[j]? = some u → w.cell? ⟨b, o + i * K.size + j, none⟩ = some u) : Rd K w v xs := ⟨a, cap, h1, h2, h3, h4, h5⟩
theorem Rd.len {w : World} {v : Value} {xs : List α} (h : Rd K w v xs) : ∃ a cap, v = .slice a xs.length cap ∧ xs.length ≤ cap ∧ cap ≤ 9223372036854775807 := by
  obtain ⟨a, cap, h1, h2, h3, _⟩ := h
  exact ⟨a, cap, h1, h2, by unfold maxLen at h3; omega⟩
theorem Rd.form {w : World} {v : Value} {xs : List α} (h : Rd K w v xs) : (v = .slice none 0 0 ∧ xs = []) ∨ ∃ ad cap, v = .slice (some ad) xs.length cap ∧ xs.length ≤ cap ∧ cap ≤ 9223372036854775807 := by
  obtain ⟨a, cap, h1, h2, h3, h6, _⟩ := h
  cases a with
  | none =>
    have := h6 rfl
    subst this
    have h0 : xs = [] := List.eq_nil_of_length_eq_zero (by omega)
    subst h0
    exact .inl ⟨h1, rfl⟩
  | some ad => exact .inr ⟨ad, cap, h1, h2, by unfold maxLen at h3; omega⟩
theorem Rd.at_ {w : World} {a : Option Addr} {n cap : Nat} {xs : List α} (h : Rd K w (.slice a n cap) xs) {i : Nat} (hi : i < xs.length) :
    ∃ b o vs, a = some ⟨b, o, none⟩ ∧ K.R w vs (ix xs i) ∧ ∀ j u, vs[j]? = some u → w.cell? ⟨b, o + i * K.size + j, none⟩ = some u := by
  obtain ⟨a', cap', h1, h2, h3, h4, h5⟩ := h
  cases h1
  exact h5 i hi
theorem Rd.nil (w : World) : Rd K w (.slice none 0 0) [] := ⟨none, 0, rfl, Nat.le_refl _, by unfold maxLen; omega, fun _ => rfl, fun i hi => by simp at hi⟩
theorem Rd.kp {w w' : World} {v : Value} {xs : List α} (h : Rd K w v xs) (k : Kp All w w') : Rd K w' v xs := by
  obtain ⟨a, cap, h1, h2, h3, h4, h5⟩ := h
  refine ⟨a, cap, h1, h2, h3, h4, fun i hi => ?_⟩
  obtain ⟨b, o, vs, ha, hr, hc⟩ := h5 i hi
  exact ⟨b, o, vs, ha, K.mono k hr, fun j u hj => cell_kp k (hc j u hj) trivial⟩
theorem Rd.gr {w w' : World} {v : Value} {xs : List α} (h : Rd K w v xs) (g : Gr w w') : Rd K w' v xs := h.kp g.kp
theorem Rd.alloc {w : World} {v : Value} {xs : List α} (h : Rd K w v xs) (o : Obj) : Rd K (w.alloc o) v xs := h.gr ((Gr.refl _).alloc o)
theorem Rd.drew {w : World} {v : Value} {xs : List α} (h : Rd K w v xs) : Rd K w.drew v xs := h.gr ((Gr.refl _).drew)

theorem Rd.sub {w : World} {b o n cap : Nat} {xs : List α} (h : Rd K w (.slice (some ⟨b, o, none⟩) n cap) xs) {i m c o' : Nat} (him : i + m ≤ xs.length) (hm : m ≤ c) (hc : c ≤ 9223372036854775807) (ho : o' = o + i * K.size) :
    Rd K w (.slice (some ⟨b, o', none⟩) m c) ((xs.drop i).take m) := by
  have hl : ((xs.drop i).take m).length = m := by rw [List.length_take, List.length_drop]; omega
  refine ⟨some ⟨b, o', none⟩, c, by rw [hl], by omega, by unfold maxLen; omega, (fun h => by cases h), fun j hj => ?_⟩
  rw [hl] at hj
  obtain ⟨b', o2, vs, hb, hr, hcell⟩ := h.at_ (show i + j < xs.length by omega)
  cases hb
  refine ⟨b, o', vs, rfl, ?_, fun q u hq => ?_⟩
  · have : ix ((xs.drop i).take m) j = ix xs (i + j) := by
      rw [ix_lt (by rw [hl]; exact hj), ix_lt (by omega)]; simp
    rw [this]; exact hr
  · have := hcell q u hq
    rw [ho, show o + i * K.size + j * K.size + q = o + (i + j) * K.size + q by rw [Nat.add_mul]; omega]
    exact this
theorem Rd.take {w : World} {a : Option Addr} {n cap m : Nat} {xs : List α} (h : Rd K w (.slice a n cap) xs) (hm : m ≤ xs.length) : Rd K w (.slice a m cap) (xs.take m) := by
  obtain ⟨a', cap', h1, h2, h3, h4, h5⟩ := h
  cases h1
  have hl : (xs.take m).length = m := by rw [List.length_take]; omega
  refine ⟨a, cap, by rw [hl], by omega, h3, h4, fun i hi => ?_⟩
  rw [hl] at hi
  rw [ix_take hi]
  exact h5 i (by omega)
end
/-! ### rows of the call's own -/
section
variable {α : Type} {K : Kind α}
structure KTy (P : Program) (t e : TypeId) (K : Kind α) (bytes : Nat) (z : Value) : Prop where
  und : P.underlying t = some (.slice e)
  info : (P.info? e).map (fun i => (i.zero, i.size, i.bytes)) = some (some z, K.size, bytes)
  zs : z.cells.size = K.size
  pos : 0 < K.size

def cellsOf (rows : List (α × List Value)) : List Value := rows.flatMap (·.2)
/-- v is a row of the call's own (a block from base on); its elements hang on blocks of S, and not on the row's own -/
def OwnR (K : Kind α) (e base : Nat) (S : Nat → Prop) (w : World) (v : Value) (xs : List α) : Prop :=
  ∃ rows : List (α × List Value), xs = rows.map (·.1) ∧ w.ownsRow base e K.size v rows.length (cellsOf rows) ∧ ∀ r ∈ rows, On (fun b => S b ∧ v.ownBlock ≠ some b) (fun w => K.R w r.2 r.1) w
variable {e base : Nat} {S : Nat → Prop} {w : World} {v : Value} {xs : List α}
theorem OwnR.nil (e base : Nat) (S : Nat → Prop) (w : World) : OwnR K e base S w (.slice none 0 0) ([] : List α) := ⟨[], rfl, World.ownsRow_nil w base e _, by simp⟩
theorem OwnR.empty (h : w.ownsRow base e K.size v 0 []) : OwnR K e base S w v ([] : List α) := ⟨[], rfl, h, by simp⟩
theorem OwnR.lt (h : OwnR K e base S w v xs) {k : Nat} (hk : v.ownBlock = some k) : base ≤ k ∧ k < w.heap.size := by
  obtain ⟨rows, _, hr, _⟩ := h
  exact hr.lt k hk
theorem OwnR.form (h : OwnR K e base S w v xs) : (v = .slice none 0 0 ∧ xs = []) ∨ ∃ g cap, v = .slice (some ⟨g, 0, none⟩) xs.length cap ∧ base ≤ g ∧ g < w.heap.size ∧ xs.length ≤ cap ∧ cap ≤ 9223372036854775807 := by
  obtain ⟨rows, rfl, hr, _⟩ := h
  rcases hr.2 with ⟨h1, h2⟩ | ⟨g, cap, cur, h1, h2, h3, h4, h5, _⟩
  · exact .inl ⟨h1, by rw [List.eq_nil_of_length_eq_zero h2]; rfl⟩
  · exact .inr ⟨g, cap, by rw [List.length_map]; exact h1, h2, (Array.getElem?_eq_some_iff.1 h3).1, by rw [List.length_map]; exact h4, by unfold maxLen at h5; omega⟩
theorem OwnR.len (h : OwnR K e base S w v xs) : ∃ a cap, v = .slice a xs.length cap ∧ xs.length ≤ cap ∧ cap ≤ 9223372036854775807 := by
  rcases h.form with ⟨rfl, rfl⟩ | ⟨g, cap, h1, _, _, h2, h3⟩
  · exact ⟨none, 0, rfl, Nat.le_refl _, by omega⟩
  · exact ⟨_, cap, h1, h2, h3⟩
theorem OwnR.gr {w' : World} (h : OwnR K e base S w v xs) (g : Gr w w') : OwnR K e base S w' v xs := by
  obtain ⟨rows, h1, h2, h3⟩ := h
  exact ⟨rows, h1, ownsRow_below h2 g.below, fun r hr => (h3 r hr).gr g⟩
theorem OwnR.alloc (h : OwnR K e base S w v xs) (o : Obj) : OwnR K e base S (w.alloc o) v xs := h.gr ((Gr.refl _).alloc o)
theorem OwnR.drew (h : OwnR K e base S w v xs) : OwnR K e base S w.drew v xs := h.gr ((Gr.refl _).drew)
theorem OwnR.sets {S' : Nat → Prop} (h : OwnR K e base S w v xs) (hs : ∀ b, b < w.heap.size → S b → S' b) : OwnR K e base S' w v xs := by
  obtain ⟨rows, h1, h2, h3⟩ := h
  exact ⟨rows, h1, h2, fun r hr => (h3 r hr).mono fun b hb h => ⟨hs b hb h.1, h.2⟩⟩
theorem OwnR.low {base' : Nat} (h : OwnR K e base S w v xs) (hb : base' ≤ base) : OwnR K e base' S w v xs := by
  obtain ⟨rows, h1, h2, h3⟩ := h
  refine ⟨rows, h1, ⟨h2.1, ?_⟩, h3⟩
  rcases h2.2 with h4 | ⟨g, cap, cur, h4, h5, h6⟩
  · exact .inl h4
  · exact .inr ⟨g, cap, cur, h4, Nat.le_trans hb h5, h6⟩
/-- another row was written: its block lies outside S -/
theorem OwnR.kept {S' : Nat → Prop} {w' : World} {row : Option Nat} (h : OwnR K e base S w v xs) (hg : w.grownBy w' row) (hne : v.ownBlock = none ∨ v.ownBlock ≠ row) (hS : ∀ b, b < w.heap.size → S b → S' b ∧ some b ≠ row) : OwnR K e base S' w' v xs := by
  obtain ⟨rows, h1, h2, h3⟩ := h
  refine ⟨rows, h1, h2.kept hg hne, fun r hr => (h3 r hr).moved hg.size fun b hb hs => ?_⟩
  obtain ⟨h4, h5⟩ := hS b hb hs.1
  exact ⟨⟨h4, hs.2⟩, hg.block b hb h5⟩
theorem OwnR.other (h : OwnR K e base S w v xs) {a : Addr} (ha : v.ownBlock ≠ some a.block) (hS : ¬ S a.block) (u : Value) : OwnR K e base S (w.setCell a u) v xs :=
  h.kept (row := some a.block) ⟨rfl, rfl, rfl, by simp [World.setCell], fun k hk hne => Below.heap_setCell _ _ _ _ (by intro h; subst h; exact hne rfl)⟩ (.inr ha) (fun b _ hb => ⟨hb, fun e => hS (by cases e; exact hb)⟩)

theorem cellsOf_at {n : Nat} : ∀ {rows : List (α × List Value)} {i j : Nat}, (∀ r ∈ rows, r.2.length = n) → i < rows.length → j < n → (cellsOf rows)[i * n + j]? = (rows[i]?.bind fun r => r.2[j]?) := by
  intro rows
  induction rows with
  | nil => intro i j _ hi; simp at hi
  | cons r rest ih =>
    intro i j hall hi hj
    have hr := hall r (by simp)
    have e : cellsOf (r :: rest) = r.2 ++ cellsOf rest := by simp [cellsOf]
    rw [e]
    cases i with
    | zero => rw [List.getElem?_append_left (by omega)]; simp
    | succ i =>
      rw [List.getElem?_append_right (by rw [hr, Nat.add_mul]; omega), hr, show (i + 1) * n + j - n = i * n + j by rw [Nat.add_mul]; omega, ih (fun r' hr' => hall r' (by simp [hr'])) (by simpa using hi) hj]
      simp
theorem OwnR.at_ [Inhabited α] {g n cap : Nat} (h : OwnR K e base S w (.slice (some ⟨g, 0, none⟩) n cap) xs) {i : Nat} (hi : i < xs.length) :
    ∃ vs, On (fun b => S b ∧ b ≠ g) (fun w => K.R w vs (ix xs i)) w ∧ ∀ j u, vs[j]? = some u → w.cell? ⟨g, i * K.size + j, none⟩ = some u := by
  obtain ⟨rows, rfl, hr, hall⟩ := h
  have hlen : ∀ r ∈ rows, r.2.length = K.size := fun r hr => K.len (hall r hr).now
  have hi' : i < rows.length := by simpa using hi
  have hn : n = rows.length := by
    rcases hr.2 with ⟨h1, _⟩ | ⟨_, _, _, h1, _⟩
    · cases h1
    · cases h1; rfl
  subst hn
  refine ⟨rows[i].2, ?_, fun j u hj => ?_⟩
  · have := hall rows[i] (List.getElem_mem hi')
    rw [ix_lt hi, List.getElem_map]
    exact this.mono fun b _ hb => ⟨hb.1, fun e => hb.2 (by rw [e]; rfl)⟩
  · have hj' : j < K.size := by
      have := (List.getElem?_eq_some_iff.1 hj).1
      rwa [hlen _ (List.getElem_mem hi')] at this
    have hb : i * K.size + j < rows.length * K.size := by
      have : (i + 1) * K.size ≤ rows.length * K.size := Nat.mul_le_mul_right _ hi'
      rw [Nat.add_mul] at this; omega
    rw [hr.cellAt _ hb, cellsOf_at hlen hi' hj']
    simp [hi', hj]
theorem OwnR.frozen {g n cap : Nat} (h : OwnR K e base S w (.slice (some ⟨g, 0, none⟩) n cap) xs) (i : Nat) : w.frozen? ⟨g, i, none⟩ = false := by
  obtain ⟨rows, _, hr, _⟩ := h
  have hn : n = rows.length := by
    rcases hr.2 with ⟨h1, _⟩ | ⟨_, _, _, h1, _⟩
    · cases h1
    · cases h1; rfl
  subst hn
  exact hr.frozenAt i
theorem cellsOf_set {rows : List (α × List Value)} : ∀ {i : Nat} {x : α} {u : Value}, (∀ r ∈ rows, r.2.length = 1) → cellsOf (rows.set i (x, [u])) = (cellsOf rows).set i u := by
  induction rows with
  | nil => intro i x u _; simp [cellsOf]
  | cons r rest ih =>
    intro i x u hall
    have hr := hall r (by simp)
    obtain ⟨q, hq⟩ : ∃ q, r.2 = [q] := List.length_eq_one_iff.1 hr
    have e : ∀ r : α × List Value, ∀ rest, cellsOf (r :: rest) = r.2 ++ cellsOf rest := fun r rest => by simp [cellsOf]
    cases i with
    | zero => rw [List.set_cons_zero, e, e, hq]; rfl
    | succ i => rw [List.set_cons_succ, e, e, hq, ih (fun r' h => hall r' (by simp [h]))]; rfl
theorem own_eq {g n cap b : Nat} (e : (Value.slice (some ⟨g, 0, none⟩) n cap).ownBlock = some b) : b = g := by
  have : g = b := by simpa [Value.ownBlock] using e
  exact this.symm
/-- a store into a row whose elements are of one cell -/
theorem OwnR.set1 (hK : K.size = 1) {g n cap : Nat} (h : OwnR K e base S w (.slice (some ⟨g, 0, none⟩) n cap) xs) (i : Nat) {u : Value} {x : α} (hx : On (fun b => S b ∧ b ≠ g) (fun w => K.R w [u] x) w) :
    OwnR K e base S (w.setCell ⟨g, i, none⟩ u) (.slice (some ⟨g, 0, none⟩) n cap) (xs.set i x) := by
  obtain ⟨rows, rfl, hr, hall⟩ := h
  have hlen : ∀ r ∈ rows, r.2.length = 1 := fun r hr => by rw [K.len (hall r hr).now, hK]
  have hn : n = rows.length := by
    rcases hr.2 with ⟨h1, _⟩ | ⟨_, _, _, h1, _⟩
    · cases h1
    · cases h1; rfl
  subst hn
  refine ⟨rows.set i (x, [u]), by rw [List.map_set], ?_, fun r hr' => ?_⟩
  · rw [List.length_set, cellsOf_set hlen]
    exact (hr.stored i u).1
  · have hk : ∀ {p : World → Prop}, On (fun b => S b ∧ b ≠ g) p w → On (fun b => S b ∧ (Value.slice (some ⟨g, 0, none⟩) rows.length cap).ownBlock ≠ some b) p (w.setCell ⟨g, i, none⟩ u) := by
      intro p hp
      refine hp.moved (by simp [World.setCell]) fun b hb hs => ⟨⟨hs.1, fun e => hs.2 (own_eq e)⟩, Below.heap_setCell w _ u b hs.2⟩
    rcases List.mem_or_eq_of_mem_set hr' with h1 | h1
    · exact hk ((hall r h1).mono fun b _ hb => ⟨hb.1, fun e => hb.2 (by rw [e]; rfl)⟩)
    · rw [h1]; exact hk hx
/-- what it reads as hangs on the row and on S -/
theorem OwnR.on [Inhabited α] {S' : Nat → Prop} (h : OwnR K e base S w v xs) (hS : ∀ b, b < w.heap.size → S b → S' b) (hv : ∀ b, v.ownBlock = some b → S' b) : On S' (fun w => Rd K w v xs) w := by
  intro w' k
  rcases h.form with ⟨rfl, rfl⟩ | ⟨g, cap, rfl, _, hg, hl, hc⟩
  · exact Rd.nil _
  · refine ⟨_, cap, rfl, hl, by unfold maxLen; omega, (fun h => by cases h), fun i hi => ?_⟩
    obtain ⟨vs, h1, h2⟩ := h.at_ hi
    refine ⟨g, 0, vs, rfl, ?_, fun j u hj => ?_⟩
    · exact h1 w' (k.mono fun b hb hb' => hS b hb hb'.1)
    · rw [Nat.zero_add]
      exact cell_kp k (h2 j u hj) (hv g rfl)
theorem OwnR.rd [Inhabited α] (h : OwnR K e base S w v xs) : Rd K w v xs := (h.on (S' := All) (fun _ _ _ => trivial) (fun _ _ => trivial)).now
theorem OwnR.fresh [Inhabited α] (h : OwnR K e base S w v xs) (hS : ∀ b, b < w.heap.size → S b → base ≤ b) : On (fun b => base ≤ b) (fun w => Rd K w v xs) w :=
  h.on hS fun b hb => (h.lt hb).1
/-- a literal that was laid last -/
theorem OwnR.lit {H n m : Nat} {cs : Array Value} (rows : List (α × List Value)) (hx : xs = rows.map (·.1)) (hH : w.heap.size = H) (hn : n = xs.length) (hm : m = xs.length) (hcs : cs.toList = cellsOf rows) (hl : xs.length ≤ 1000) (hb : base ≤ w.heap.size)
    (hS : ∀ r ∈ rows, On (fun b => S b ∧ b ≠ H) (fun w => K.R w r.2 r.1) w) : OwnR K e base S (w.alloc (.cells cs e)) (.slice (some ⟨H, 0, none⟩) n m) xs := by
  subst hH hn hm hx
  have hlen : ∀ r ∈ rows, r.2.length = K.size := fun r hr => K.len (hS r hr).now
  have hsz : (cellsOf rows).length = rows.length * K.size := by
    clear hcs hl hS hb
    induction rows with
    | nil => simp [cellsOf]
    | cons r rest ih =>
      have e : cellsOf (r :: rest) = r.2 ++ cellsOf rest := by simp [cellsOf]
      rw [e, List.length_append, ih (fun r' hr' => hlen r' (by simp [hr'])), hlen r (by simp), List.length_cons, Nat.add_mul]; omega
  refine ⟨rows, rfl, ⟨hsz, .inr ⟨w.heap.size, rows.length, cs, by simp, hb, heap_alloc_new w _, Nat.le_refl _, by unfold maxLen; rw [List.length_map] at hl; omega, ?_, ?_⟩⟩, fun r hr => ?_⟩
  · rw [← Array.length_toList, hcs, hsz]
  · rw [hcs, List.take_of_length_le (by omega)]
  · refine ((hS r hr).gr ((Gr.refl _).alloc _)).mono fun b _ hb' => ⟨hb'.1, fun e => hb'.2 ?_⟩
    have : w.heap.size = b := by simpa [Value.ownBlock] using e
    exact this.symm
end

/-! ### appends -/
section
variable {α : Type} {K : Kind α} {P : Program} {t e : TypeId} {bytes : Nat} {z : Value}
theorem grown_own {S : Nat → Prop} {base : Nat} {w w' : World} {v v' : Value} {rows : List (α × List Value)} {x : α} {vs : List Value} (ho' : w'.ownsRow base e K.size v' (rows.length + 1) (cellsOf rows ++ vs)) (hall : ∀ r ∈ rows, On (fun b => S b ∧ v.ownBlock ≠ some b) (fun w => K.R w r.2 r.1) w)
    (hx : On (fun b => S b ∧ v.ownBlock ≠ some b) (fun w => K.R w vs x) w) (hg : w.grownBy w' v.ownBlock) (hat : v'.ownBlock = v.ownBlock ∨ v'.ownBlock = some w.heap.size) : OwnR K e base S w' v' (rows.map (·.1) ++ [x]) := by
  refine ⟨rows ++ [(x, vs)], by simp, by rw [List.length_append, show cellsOf (rows ++ [(x, vs)]) = cellsOf rows ++ vs by simp [cellsOf]]; exact ho', fun r hr => ?_⟩
  have key : On (fun b => S b ∧ v.ownBlock ≠ some b) (fun w => K.R w r.2 r.1) w := by
    rcases List.mem_append.1 hr with h | h
    · exact hall r h
    · rw [List.mem_singleton.1 h]; exact hx
  refine key.moved hg.size fun b hb hs => ⟨⟨hs.1, ?_⟩, hg.block b hb (fun e => hs.2 e.symm)⟩
  rcases hat with h | h
  · rw [h]; exact hs.2
  · rw [h]; intro e; have : w.heap.size = b := by simpa using e
    omega

/-- 'append(out, x)' -/
theorem app_one (T : KTy P t e K bytes z) {w : World} {ops : Array Oper} {rest : List Oper} {o : Oper} {a : Act} {Q : Exit → Act → World → Prop} (s x : Operand)
    (base : Nat) (S : Nat → Prop) (v : Value) (xs : List α) (ad : Addr) (y : α) (vs : List Value) (hg : o.guard = none) (hop : o.op = .call { callee := .builtin .append, args := #[s, x], argTypes := #[t, t] }) (hs : a.eval s = v) (hx : a.eval x = .slice (some ad) 1 1)
    (hown : OwnR K e base S w v xs) (hcell : ∀ j u, vs[j]? = some u → w.cell? (ad.add j) = some u) (hy : On (fun b => S b ∧ v.ownBlock ≠ some b) (fun w => K.R w vs y) w) (hn : (xs.length + 1) * bytes ≤ 140737488355328) (hn' : xs.length + 1 ≤ maxLen) (hbase : base ≤ w.heap.size)
    (hK : ∀ v' w', OwnR K e base S w' v' (xs ++ [y]) → (∀ a : World, a.heap.size ≤ base → Gr a w → Gr a w') → w.grownBy w' v.ownBlock → (v'.ownBlock = v.ownBlock ∨ v'.ownBlock = some w.heap.size) → wpList P ops Q rest (a.put o.dst v') w') : wpList P ops Q (o :: rest) a w := by
  obtain ⟨i, hi, hz, hsz, hb⟩ := info_parts T.info
  obtain ⟨rows, rfl, hr, hall⟩ := hown
  rw [List.length_map] at hn hn'
  refine wpList_append_own_at w hg s x t hop base e i z K.size bytes T.und hi hz hsz hb T.zs T.pos v rows.length _ hs hr ad 1 1 vs hx (by rw [K.len hy.now]; simp) hcell (K.one hy.now) hn' hn hbase ?_
  intro v' w' ho' hgr _ hat
  exact hK v' w' (grown_own ho' hall hy hgr hat) (fun a hB hb => hb.grown hgr fun k hk => Nat.le_trans hB (hr.lt k hk).1) hgr hat

theorem step_app_one (T : KTy P t e K bytes z) {ops : Array Oper} {o : Oper} {a : Act} {w : World} {KK : Act → World → Prop} {Q : Exit → Act → World → Prop} {E : Prop} (hgd : o.guard = none) (s x : Operand)
    (ho : o.op = .call { callee := .builtin .append, args := #[s, x], argTypes := #[t, t] }) (base : Nat) (S : Nat → Prop) (v : Value) (xs : List α) (ad : Addr) (y : α) (vs : List Value) (hs : a.eval s = v) (hx : a.eval x = .slice (some ad) 1 1)
    (hown : OwnR K e base S w v xs) (hcell : ∀ j u, vs[j]? = some u → w.cell? (ad.add j) = some u) (hy : On (fun b => S b ∧ v.ownBlock ≠ some b) (fun w => K.R w vs y) w) (hn : (xs.length + 1) * bytes ≤ 140737488355328) (hn' : xs.length + 1 ≤ maxLen) (hbase : base ≤ w.heap.size)
    (hK : ∀ g cap w', OwnR K e base S w' (.slice (some ⟨g, 0, none⟩) (xs.length + 1) cap) (xs ++ [y]) → (∀ a : World, a.heap.size ≤ base → Gr a w → Gr a w') → w.grownBy w' v.ownBlock → (v.ownBlock = some g ∨ g = w.heap.size) → g < w'.heap.size → KK (a.put o.dst (.slice (some ⟨g, 0, none⟩) (xs.length + 1) cap)) w') :
    if Region.wanted o (yielded ops a.tmps) = true then Oper.wp P o a w KK Q else E := by
  obtain ⟨i, hi, hz, hsz, hb⟩ := info_parts T.info
  obtain ⟨rows, rfl, hr, hall⟩ := hown
  rw [List.length_map] at hn hn' hK
  refine step_append_lies w hgd s x t ho base e i z K.size bytes T.und hi hz hsz hb T.zs T.pos v rows.length _ hs hr ad 1 1 vs hx (by rw [K.len hy.now]; simp) hcell (K.one hy.now) (by omega) hn' hn hbase w.heap.size rfl ?_
  intro g cap w' ho' hgr hat hlt
  exact hK g cap w' (grown_own ho' hall hy hgr (hat.imp (fun h => by rw [h]; rfl) (fun h => by rw [h]; rfl))) (fun a hB hb => hb.grown hgr fun k hk => Nat.le_trans hB (hr.lt k hk).1) hgr hat hlt

theorem flatten_zip {α : Type} : ∀ (ys : List α) (vss : List (List Value)), vss.length ≤ ys.length → (ys.zip vss).flatMap (·.2) = vss.flatten
  | _, [], _ => by simp
  | [], _ :: _, h => by simp at h
  | y :: ys, v :: vss, h => by simp at h; simp [flatten_zip ys vss h]
/-- 'append(out, ys...)', elements that hang on no memory of the row's -/
theorem app_many [Inhabited α] (T : KTy P t e K bytes z) {w : World} {ops : Array Oper} {rest : List Oper} {o : Oper} {a : Act} {Q : Exit → Act → World → Prop} (s x : Operand)
    (base : Nat) (S : Nat → Prop) (v u : Value) (xs ys : List α) (vss : List (List Value)) (hg : o.guard = none) (hop : o.op = .call { callee := .builtin .append, args := #[s, x], argTypes := #[t, t] }) (hs : a.eval s = v) (hx : a.eval x = u) (hown : OwnR K e base S w v xs) (hsrc : Rd K w u ys)
    (hl : vss.length = ys.length) (hcell : ∀ ad n c, u = .slice (some ad) n c → ∀ j x, vss.flatten[j]? = some x → w.cell? (ad.add j) = some x) (hy : ∀ i, i < ys.length → On (fun b => S b ∧ v.ownBlock ≠ some b) (fun w => K.R w (vss.getD i []) (ix ys i)) w)
    (hn : (xs.length + ys.length) * bytes ≤ 140737488355328) (hn' : xs.length + ys.length ≤ maxLen) (hbase : base ≤ w.heap.size)
    (hK : ∀ v' w', OwnR K e base S w' v' (xs ++ ys) → (∀ a : World, a.heap.size ≤ base → Gr a w → Gr a w') → w.grownBy w' v.ownBlock → (v'.ownBlock = v.ownBlock ∨ v'.ownBlock = some w.heap.size) → wpList P ops Q rest (a.put o.dst v') w') : wpList P ops Q (o :: rest) a w := by
  obtain ⟨i, hi, hz, hsz, hb⟩ := info_parts T.info
  rcases hsrc.form with ⟨rfl, rfl⟩ | ⟨ad, cap, rfl, hl1, hl2⟩
  · obtain ⟨rows, rfl, hr, hall⟩ := hown
    refine wpList_append_own_none hg s x t hop base e i K.size T.und hi v rows.length _ hs hr hx ?_
    exact hK v w ⟨rows, by simp, hr, hall⟩ (fun _ _ h => h) ⟨rfl, rfl, rfl, Nat.le_refl _, fun _ _ _ => rfl⟩ (.inl rfl)
  · obtain ⟨rows, rfl, hr, hall⟩ := hown
    rw [List.length_map] at hn hn'
    have hlen : ∀ vs ∈ vss, vs.length = K.size := by
      intro vs hvs
      obtain ⟨j, hj, rfl⟩ := List.getElem_of_mem hvs
      have := K.len (hy j (by omega)).now
      simpa [hj] using this
    have hfl : vss.flatten.length = ys.length * K.size := by
      rw [← hl]
      clear hcell hy hl
      induction vss with
      | nil => simp
      | cons a r ih => rw [List.flatten_cons, List.length_append, ih (fun vs h => hlen vs (by simp [h])), hlen a (by simp), List.length_cons, Nat.add_mul]; omega
    have hone : ∀ u ∈ vss.flatten, u.oneCell' = true := by
      intro u hu
      obtain ⟨vs, hvs, hu⟩ := List.mem_flatten.1 hu
      obtain ⟨j, hj, rfl⟩ := List.getElem_of_mem hvs
      have := K.one (hy j (by omega)).now u
      simp [hj] at this
      exact this hu
    refine wpList_append_own_at w hg s x t hop base e i z K.size bytes T.und hi hz hsz hb T.zs T.pos v rows.length _ hs hr ad ys.length cap vss.flatten hx hfl (hcell ad _ _ rfl) hone hn' hn hbase ?_
    intro v' w' ho' hgr _ hat
    refine hK v' w' ⟨rows ++ ys.zip vss, ?_, ?_, ?_⟩ (fun a hB hb => hb.grown hgr fun k hk => Nat.le_trans hB (hr.lt k hk).1) hgr hat
    · rw [List.map_append, List.map_fst_zip (by omega)]
    · rw [List.length_append, List.length_zip, hl, Nat.min_self]
      have : cellsOf (rows ++ ys.zip vss) = cellsOf rows ++ vss.flatten := by
        unfold cellsOf
        rw [List.flatMap_append]
        congr 1
        exact flatten_zip _ _ (by omega)
      rw [this]; exact ho'
    · intro r hr'
      have key : On (fun b => S b ∧ v.ownBlock ≠ some b) (fun w => K.R w r.2 r.1) w := by
        rcases List.mem_append.1 hr' with h | h
        · exact hall r h
        · obtain ⟨j, hj, rfl⟩ := List.getElem_of_mem h
          rw [List.length_zip] at hj
          have := hy j (by omega)
          rw [ix_lt (by omega)] at this
          have hj2 : j < vss.length := by omega
          simpa [hj2] using this
      refine key.moved hgr.size fun b hb hs => ⟨⟨hs.1, ?_⟩, hgr.block b hb (fun e => hs.2 e.symm)⟩
      rcases hat with h | h
      · rw [h]; exact hs.2
      · rw [h]; intro e; have : w.heap.size = b := by simpa using e
        omega
end
theorem add_none (b o j : Nat) : (⟨b, o, none⟩ : Addr).add j = ⟨b, o + j, none⟩ := by unfold Addr.add; split <;> simp_all
theorem Rd.flat_cells {α : Type} [Inhabited α] {size : Nat} {cells : α → List Value} {ok : α → Prop} {h1 : ∀ x, (cells x).length = size} {h2 : ∀ x, ∀ u ∈ cells x, u.oneCell' = true} {w : World} {ad : Addr} {n c : Nat} {ys : List α} (h : Rd (flat size cells ok h1 h2) w (.slice (some ad) n c) ys) (hp : 0 < size) :
    ∀ j x, (ys.map cells).flatten[j]? = some x → w.cell? (ad.add j) = some x := by
  intro j x hj
  have hfl : ∀ zs : List α, (zs.map cells).flatten.length = zs.length * size := by
    intro zs
    induction zs with
    | nil => simp
    | cons z r ih => rw [List.map_cons, List.flatten_cons, List.length_append, ih, h1, List.length_cons, Nat.add_mul]; omega
  have hjl : j < ys.length * size := by rw [← hfl]; exact (List.getElem?_eq_some_iff.1 hj).1
  have hi : j / size < ys.length := Nat.div_lt_of_lt_mul (by rw [Nat.mul_comm]; exact hjl)
  have hq : j % size < size := Nat.mod_lt _ hp
  have hjd : j / size * size + j % size = j := by rw [Nat.mul_comm]; exact Nat.div_add_mod j size
  obtain ⟨b, o, vs, ha, ⟨rfl, _⟩, hc⟩ := h.at_ hi
  cases ha
  have e : (ys.map cells).flatten = cellsOf (ys.map fun y => (y, cells y)) := by
    unfold cellsOf
    rw [List.flatMap_map, List.flatMap_def]
  rw [e, ← hjd, cellsOf_at (n := size) (fun r hr => by obtain ⟨y, _, rfl⟩ := List.mem_map.1 hr; exact h1 y) (by simpa using hi) hq] at hj
  have hj' : (cells (ix ys (j / size)))[j % size]? = some x := by
    rw [ix_lt hi]
    simpa [hi] using hj
  have := hc _ _ hj'
  rw [add_none]
  rw [show o + j = o + j / size * size + j % size by omega]
  exact this
/-- 'append(out, ys...)' of elements that hang on no memory -/
theorem app_flat {α : Type} [Inhabited α] {size : Nat} {cells : α → List Value} {ok : α → Prop} {h1 : ∀ x, (cells x).length = size} {h2 : ∀ x, ∀ u ∈ cells x, u.oneCell' = true} {P : Program} {t e : TypeId} {bytes : Nat} {z : Value}
    (T : KTy P t e (flat size cells ok h1 h2) bytes z) {w : World} {ops : Array Oper} {rest : List Oper} {o : Oper} {a : Act} {Q : Exit → Act → World → Prop} (s x : Operand)
    (base : Nat) (S : Nat → Prop) (v u : Value) (xs ys : List α) (hg : o.guard = none) (hop : o.op = .call { callee := .builtin .append, args := #[s, x], argTypes := #[t, t] }) (hs : a.eval s = v) (hx : a.eval x = u) (hown : OwnR (flat size cells ok h1 h2) e base S w v xs) (hsrc : Rd (flat size cells ok h1 h2) w u ys)
    (hok : ∀ y ∈ ys, ok y) (hn : (xs.length + ys.length) * bytes ≤ 140737488355328) (hn' : xs.length + ys.length ≤ maxLen) (hbase : base ≤ w.heap.size)
    (hK : ∀ v' w', OwnR (flat size cells ok h1 h2) e base S w' v' (xs ++ ys) → (∀ a : World, a.heap.size ≤ base → Gr a w → Gr a w') → w.grownBy w' v.ownBlock → (v'.ownBlock = v.ownBlock ∨ v'.ownBlock = some w.heap.size) → wpList P ops Q rest (a.put o.dst v') w') : wpList P ops Q (o :: rest) a w :=
  app_many T s x base S v u xs ys (ys.map cells) hg hop hs hx hown hsrc (by simp) (fun ad n c hu j y hj => by subst hu; exact hsrc.flat_cells T.pos j y hj)
    (fun i hi => On.true (p := (ys.map cells).getD i [] = cells (ix ys i) ∧ ok (ix ys i)) ⟨by rw [ix_lt hi]; simp [hi], hok _ (ix_mem hi)⟩) hn hn' hbase hK
attribute [irreducible] ix Rd OwnR On Kp
end Go.Tok

/- Calls that hand back a row of their own, and an error. No program is in sight here. -/
namespace Go.Tok
open Go.RowKit
theorem OwnI.lower {e base base' : Nat} {w : World} {v : Value} {xs : List Int} (h : OwnI e base w v xs) (hb : base' ≤ base) : OwnI e base' w v xs := by
  unfold OwnI at *
  refine ⟨⟨h.1.1, ?_⟩, h.2⟩
  rcases h.1.2 with h4 | ⟨g, cap, cur, h4, h5, h6⟩
  · exact .inl h4
  · exact .inr ⟨g, cap, cur, h4, Nat.le_trans hb h5, h6⟩
def RetIO (t : TypeId) (w : World) (r : List Int × Int) (e : Ending) (w' : World) : Prop :=
  ∃ v, e = .returned (.tuple #[v, .int .i64 r.2]) ∧ OwnI t w.heap.size w' v r.1 ∧ Gr w w'
theorem RetIO.mk {t : TypeId} {w w' : World} {v : Value} {x : Int} {r : List Int × Int} {xs : List Int} {base : Nat} (hr : r = (xs, x)) (hv : OwnI t base w' v xs) (hbase : w.heap.size ≤ base) (hb : Gr w w') : RetIO t w r (.returned (.tuple #[v, .int .i64 x])) w' := by
  subst hr
  exact ⟨v, rfl, hv.lower hbase, hb⟩
theorem RetIO.nil {t : TypeId} {w w' : World} {x : Int} {r : List Int × Int} (hr : r = ([], x)) (hb : Gr w w') : RetIO t w r (.returned (.tuple #[.slice none 0 0, .int .i64 x])) w' := RetIO.mk hr (OwnI.nil _ _ _) (Nat.le_refl _) hb
theorem RetIO.ie {t : TypeId} {w : World} {r : List Int × Int} {e : Ending} {w' : World} (h : RetIO t w r e w') : RetIE w r e w' := by
  obtain ⟨v, h1, h2, h3⟩ := h
  exact ⟨v, h1, h2.ints, h3⟩
end Go.Tok

/- Nets as plain data, and how they stand in memory. No program is in sight here. -/
namespace Go.Tok
open Go.RowKit

structure TranD where
  label : Int
  pre : List Int
  post : List Int
deriving DecidableEq
structure NetD where
  places : Int
  trans : List TranD
deriving DecidableEq
instance : Inhabited TranD := ⟨⟨0, [], []⟩⟩

/-- transition i of a net -/
def NetD.tr (N : NetD) (i : Nat) : TranD := N.trans.getD i default
theorem NetD.tr_mem {N : NetD} {i : Nat} (h : i < N.trans.length) : N.tr i ∈ N.trans := by
  unfold NetD.tr
  rw [List.getD_eq_getElem?_getD, List.getElem?_eq_getElem h]
  exact List.getElem_mem h

/-- v reads as the transitions ts in w -/
def TransR (w : World) (v : Value) (ts : List TranD) : Prop :=
  ∃ a cap, v = .slice a ts.length cap ∧ ts.length ≤ cap ∧ cap ≤ maxLen ∧
    ∀ i, i < ts.length → ∃ b o vp vq, a = some ⟨b, o, none⟩ ∧ w.cell? ⟨b, o + i * 3, none⟩ = some (.int .i64 (ts.getD i default).label) ∧ w.cell? ⟨b, o + i * 3 + 1, none⟩ = some vp ∧ w.cell? ⟨b, o + i * 3 + 2, none⟩ = some vq ∧
      I64 (ts.getD i default).label ∧ Ints w vp (ts.getD i default).pre ∧ Ints w vq (ts.getD i default).post

def NetR (w : World) (v : Value) (N : NetD) : Prop := ∃ vt, v = .agg #[.int .i64 N.places, vt] ∧ I64 N.places ∧ TransR w vt N.trans

theorem TransR.gr {w w' : World} {v : Value} {ts : List TranD} (h : TransR w v ts) (g : Gr w w') : TransR w' v ts := by
  obtain ⟨a, cap, h1, h2, h3, h4⟩ := h
  refine ⟨a, cap, h1, h2, h3, fun i hi => ?_⟩
  obtain ⟨b, o, vp, vq, ha, c0, c1, c2, hl, hp, hq⟩ := h4 i hi
  have hb := g.below
  exact ⟨b, o, vp, vq, ha, (hb.cell (p := ⟨b, _, none⟩) (cell_block c0)).trans c0, (hb.cell (p := ⟨b, _, none⟩) (cell_block c1)).trans c1, (hb.cell (p := ⟨b, _, none⟩) (cell_block c2)).trans c2, hl, hp.gr g, hq.gr g⟩
theorem NetR.gr {w w' : World} {v : Value} {N : NetD} (h : NetR w v N) (g : Gr w w') : NetR w' v N := by
  obtain ⟨vt, h1, h2, h3⟩ := h
  exact ⟨vt, h1, h2, h3.gr g⟩
theorem NetR.open_ {w : World} {v : Value} {N : NetD} (h : NetR w v N) : ∃ a cap, v = .agg #[.int .i64 N.places, .slice a N.trans.length cap] ∧ N.trans.length ≤ cap ∧ cap ≤ 9223372036854775807 ∧ I64 N.places ∧ TransR w (.slice a N.trans.length cap) N.trans := by
  obtain ⟨vt, h1, h2, a, cap, rfl, h4, h5, h6⟩ := h
  exact ⟨a, cap, h1, h4, by unfold maxLen at h5; omega, h2, a, cap, rfl, h4, h5, h6⟩
theorem NetR.mk_ {w : World} {N : NetD} {vt : Value} (h : TransR w vt N.trans) (hp : I64 N.places) : NetR w (.agg #[.int .i64 N.places, vt]) N := ⟨vt, rfl, hp, h⟩
theorem TransR.nil (w : World) : TransR w (.slice none 0 0) [] := ⟨none, 0, rfl, by simp, by unfold maxLen; omega, fun i hi => by simp at hi⟩
theorem TransR.at_ {w : World} {a : Option Addr} {n cap : Nat} {N : NetD} (h : TransR w (.slice a n cap) N.trans) {i : Nat} (hi : i < N.trans.length) :
    ∃ b o vp vq, a = some ⟨b, o, none⟩ ∧ w.cell? ⟨b, o + i * 3, none⟩ = some (.int .i64 (N.tr i).label) ∧ w.cell? ⟨b, o + i * 3 + 1, none⟩ = some vp ∧ w.cell? ⟨b, o + i * 3 + 2, none⟩ = some vq ∧
      I64 (N.tr i).label ∧ Ints w vp (N.tr i).pre ∧ Ints w vq (N.tr i).post := by
  obtain ⟨a', cap', h1, h2, h3, h4⟩ := h
  cases h1
  exact h4 i hi
theorem NetR.alloc {w : World} {v : Value} {N : NetD} (h : NetR w v N) (o : Obj) : NetR (w.alloc o) v N := h.gr ((Gr.refl _).alloc o)
theorem NetR.drew {w : World} {v : Value} {N : NetD} (h : NetR w v N) : NetR w.drew v N := h.gr ((Gr.refl _).drew)

/-! ### what is right with a net -/
def badW (x : Int) : Bool := decide (x < 0) || decide (x > 9)
theorem badW_def (x : Int) : badW x = (decide (x < 0) || decide (x > 9)) := rfl
def tranOkB (places : Int) (t : TranD) : Bool :=
  decide (0 ≤ t.label) && decide (t.label ≤ 26) && decide ((t.pre.length : Int) = places) && decide ((t.post.length : Int) = places) && !(t.pre.any badW) && !(t.post.any badW)
def netOkB (N : NetD) : Bool := decide (0 ≤ N.places) && decide (N.places ≤ 16) && decide (N.trans.length ≤ 24) && N.trans.all (tranOkB N.places)
def wrongC (N : NetD) : Int := if netOkB N then 0 else 2

def TransOk (N : NetD) (k : Nat) : Prop := ∀ i, i < k → tranOkB N.places (N.tr i) = true
theorem TransOk.zero (N : NetD) : TransOk N 0 := fun i hi => by omega
theorem TransOk.succ {N : NetD} {k : Nat} (h : TransOk N k) (hk : tranOkB N.places (N.tr k) = true) : TransOk N (k + 1) := fun i hi => by
  rcases Nat.lt_or_ge i k with h1 | h1
  · exact h i h1
  · obtain rfl : i = k := by omega
    exact hk
theorem TransOk.all {N : NetD} {k : Nat} (h : TransOk N k) (hk : N.trans.length ≤ k) (h0 : 0 ≤ N.places) (h1 : N.places ≤ 16) (h2 : N.trans.length ≤ 24) : wrongC N = 0 := by
  have : netOkB N = true := by
    unfold netOkB
    simp only [h0, h1, h2, decide_true, Bool.true_and, List.all_eq_true]
    intro t ht
    obtain ⟨i, hi, rfl⟩ := List.getElem_of_mem ht
    have := h i (by omega)
    rw [NetD.tr, List.getD_eq_getElem?_getD, List.getElem?_eq_getElem hi] at this
    exact this
  simp [wrongC, this]
theorem wrong_tran {N : NetD} {k : Nat} (hk : k < N.trans.length) (h : tranOkB N.places (N.tr k) = false) : wrongC N = 2 := by
  have : netOkB N = false := by
    rw [Bool.eq_false_iff]
    intro h1
    unfold netOkB at h1
    simp only [Bool.and_eq_true, List.all_eq_true] at h1
    have := h1.2 _ (NetD.tr_mem hk)
    rw [h] at this; cases this
  simp [wrongC, this]
theorem wrong_head {N : NetD} (h : N.places < 0 ∨ 16 < N.places ∨ 24 < N.trans.length) : wrongC N = 2 := by
  have : netOkB N = false := by
    rw [Bool.eq_false_iff]
    intro h1
    unfold netOkB at h1
    simp only [Bool.and_eq_true, decide_eq_true_eq] at h1
    omega
  simp [wrongC, this]

/-- the ways in which a transition can be wrong, in the program's order -/
theorem tran_cases (places : Int) (t : TranD) : (tranOkB places t = true ∧ 0 ≤ t.label ∧ t.label ≤ 26 ∧ (t.pre.length : Int) = places ∧ (t.post.length : Int) = places ∧ t.pre.any badW = false ∧ t.post.any badW = false) ∨
    (tranOkB places t = false ∧ (t.label < 0 ∨ (0 ≤ t.label ∧ 26 < t.label) ∨ (0 ≤ t.label ∧ t.label ≤ 26 ∧ ((t.pre.length : Int) != places) = true) ∨
      (0 ≤ t.label ∧ t.label ≤ 26 ∧ (t.pre.length : Int) = places ∧ ((t.post.length : Int) != places) = true) ∨
      (0 ≤ t.label ∧ t.label ≤ 26 ∧ (t.pre.length : Int) = places ∧ (t.post.length : Int) = places ∧ t.pre.any badW = true) ∨
      (0 ≤ t.label ∧ t.label ≤ 26 ∧ (t.pre.length : Int) = places ∧ (t.post.length : Int) = places ∧ t.pre.any badW = false ∧ t.post.any badW = true))) := by
  by_cases h1 : 0 ≤ t.label
  · by_cases h2 : t.label ≤ 26
    · by_cases h3 : (t.pre.length : Int) = places
      · by_cases h4 : (t.post.length : Int) = places
        · cases h5 : t.pre.any badW
          · cases h6 : t.post.any badW
            · exact .inl ⟨by simp [tranOkB, h1, h2, h3, h4, h5, h6], h1, h2, h3, h4, rfl, rfl⟩
            · exact .inr ⟨by simp [tranOkB, h6], .inr (.inr (.inr (.inr (.inr ⟨h1, h2, h3, h4, rfl, rfl⟩))))⟩
          · exact .inr ⟨by simp [tranOkB, h5], .inr (.inr (.inr (.inr (.inl ⟨h1, h2, h3, h4, rfl⟩))))⟩
        · exact .inr ⟨by simp [tranOkB, h4], .inr (.inr (.inr (.inl ⟨h1, h2, h3, by simpa using h4⟩)))⟩
      · exact .inr ⟨by simp [tranOkB, h3], .inr (.inr (.inl ⟨h1, h2, by simpa using h3⟩))⟩
    · exact .inr ⟨by simp [tranOkB, h2], .inr (.inl ⟨h1, by omega⟩)⟩
  · exact .inr ⟨by simp [tranOkB, h1], .inl (by omega)⟩

/-! ### what the functions of package net make of a net -/
def fitsB (N : NetD) (m : List Int) : Bool := netOkB N && decide ((m.length : Int) = N.places) && rightB m
def fitsC (N : NetD) (m : List Int) : Int := if fitsB N m then 0 else 2
theorem wrongC_yes {N : NetD} (h : netOkB N = true) : wrongC N = 0 := by simp [wrongC, h]
theorem wrongC_no {N : NetD} (h : netOkB N = false) : wrongC N = 2 := by simp [wrongC, h]
theorem fitsC_yes {N : NetD} {m : List Int} (h : fitsB N m = true) : fitsC N m = 0 := by simp [fitsC, h]
theorem fitsC_no {N : NetD} {m : List Int} (h : fitsB N m = false) : fitsC N m = 2 := by simp [fitsC, h]
theorem fits_cases (N : NetD) (m : List Int) : (fitsB N m = true ∧ netOkB N = true ∧ (m.length : Int) = N.places ∧ rightB m = true) ∨ (fitsB N m = false ∧ (netOkB N = false ∨ (netOkB N = true ∧ ((m.length : Int) != N.places) = true) ∨ (netOkB N = true ∧ (m.length : Int) = N.places ∧ rightB m = false))) := by
  cases h1 : netOkB N
  · exact .inr ⟨by simp [fitsB, h1], .inl rfl⟩
  · by_cases h2 : (m.length : Int) = N.places
    · cases h3 : rightB m
      · exact .inr ⟨by simp [fitsB, h3], .inr (.inr ⟨rfl, h2, rfl⟩)⟩
      · exact .inl ⟨by simp [fitsB, h1, h2, h3], rfl, h2, rfl⟩
    · exact .inr ⟨by simp [fitsB, h2], .inr (.inl ⟨rfl, by simpa using h2⟩)⟩
theorem fits_sizes {N : NetD} {m : List Int} (h : fitsB N m = true) : N.trans.length ≤ 24 ∧ 0 ≤ N.places ∧ N.places ≤ 16 ∧ m.length ≤ 16 ∧ (m.length : Int) = N.places ∧ rightB m = true ∧ netOkB N = true := by
  unfold fitsB at h
  simp only [Bool.and_eq_true, decide_eq_true_eq] at h
  obtain ⟨⟨h1, h2⟩, h3⟩ := h
  have h4 := h1
  unfold netOkB at h4
  simp only [Bool.and_eq_true, decide_eq_true_eq] at h4
  exact ⟨by omega, by omega, by omega, by omega, h2, h3, h1⟩
structure TranFacts (N : NetD) (t : TranD) : Prop where
  lab0 : 0 ≤ t.label
  lab1 : t.label ≤ 26
  pre : (t.pre.length : Int) = N.places
  post : (t.post.length : Int) = N.places
  preW : ∀ x ∈ t.pre, 0 ≤ x ∧ x ≤ 9
  postW : ∀ x ∈ t.post, 0 ≤ x ∧ x ≤ 9
theorem netOk_tr {N : NetD} (h : netOkB N = true) {i : Nat} (hi : i < N.trans.length) : TranFacts N (N.tr i) := by
  unfold netOkB at h
  simp only [Bool.and_eq_true, List.all_eq_true] at h
  have h1 := h.2 _ (NetD.tr_mem hi)
  unfold tranOkB at h1
  simp only [Bool.and_eq_true, decide_eq_true_eq, Bool.not_eq_true', List.any_eq_false] at h1
  obtain ⟨⟨⟨⟨⟨a, b⟩, c⟩, d⟩, e⟩, f⟩ := h1
  refine ⟨a, b, c, d, fun x hx => ?_, fun x hx => ?_⟩
  · have := e x hx; unfold badW at this; simp at this; omega
  · have := f x hx; unfold badW at this; simp at this; omega
theorem TranFacts.rPre {N : NetD} {t : TranD} (h : TranFacts N t) : rightB t.pre = true := (rightB_iff _).2 fun x hx => by have := h.preW x hx; omega
theorem TranFacts.rPost {N : NetD} {t : TranD} (h : TranFacts N t) : rightB t.post = true := (rightB_iff _).2 fun x hx => by have := h.postW x hx; omega

/-- what firing transition t makes of m, where the net fits -/
def fireL (N : NetD) (m : List Int) (t : Int) : List Int × Int :=
  if 0 ≤ t ∧ t < N.trans.length then
    (if (zipF minusf m (N.tr t.toNat).pre).2 = 0 then zipF plusf (zipF minusf m (N.tr t.toNat).pre).1 (N.tr t.toNat).post else ([], (zipF minusf m (N.tr t.toNat).pre).2))
  else ([], 3)
def fireF (N : NetD) (m : List Int) (t : Int) : List Int × Int := if fitsB N m then fireL N m t else ([], 2)
def runL (N : NetD) : List Int → List Int → List Int × Int
  | m, [] => (m, 0)
  | m, t :: s => if (fireF N m t).2 = 0 then runL N (fireF N m t).1 s else ([], (fireF N m t).2)
def runF (N : NetD) (m seq : List Int) : List Int × Int := if fitsB N m then runL N m seq else ([], 2)
def enabledL (N : NetD) (m : List Int) : List Int := ((List.range N.trans.length).filter fun k => coversB m (N.tr k).pre).map Int.ofNat
def enabledF (N : NetD) (m : List Int) : List Int × Int := if fitsB N m then (enabledL N m, 0) else ([], 2)

theorem fireF_unfit {N : NetD} {m : List Int} {t : Int} (h : fitsB N m = false) : fireF N m t = ([], 2) := by simp [fireF, h]
theorem fireF_range {N : NetD} {m : List Int} {t : Int} (h : fitsB N m = true) (ht : t < 0 ∨ (N.trans.length : Int) ≤ t) : fireF N m t = ([], 3) := by
  unfold fireF fireL; rw [if_pos h, if_neg (by omega)]
theorem fireF_not {N : NetD} {m : List Int} {k : Nat} {L : List Int} {e : Int} (h : fitsB N m = true) (hk : k < N.trans.length) (he : zipF minusf m (N.tr k).pre = (L, e)) (h0 : e ≠ 0) : fireF N m k = ([], e) := by
  unfold fireF fireL; rw [if_pos h, if_pos (by omega), Int.toNat_natCast, he, if_neg h0]
theorem fireF_ok {N : NetD} {m : List Int} {k : Nat} {L : List Int} (h : fitsB N m = true) (hk : k < N.trans.length) (he : zipF minusf m (N.tr k).pre = (L, 0)) : fireF N m k = zipF plusf L (N.tr k).post := by
  unfold fireF fireL; rw [if_pos h, if_pos (by omega), Int.toNat_natCast, he, if_pos rfl]
theorem runF_unfit {N : NetD} {m s : List Int} (h : fitsB N m = false) : runF N m s = ([], 2) := by simp [runF, h]
theorem runF_fit {N : NetD} {m s : List Int} (h : fitsB N m = true) : runF N m s = runL N m s := by simp [runF, h]
theorem enabledF_unfit {N : NetD} {m : List Int} (h : fitsB N m = false) : enabledF N m = ([], 2) := by simp [enabledF, h]
theorem enabledF_fit {N : NetD} {m : List Int} (h : fitsB N m = true) : enabledF N m = (enabledL N m, 0) := by simp [enabledF, h]
/-- the enabled ones of the first k -/
def enUpto (N : NetD) (m : List Int) (k : Nat) : List Int := ((List.range k).filter fun k => coversB m (N.tr k).pre).map Int.ofNat
theorem enUpto_zero (N : NetD) (m : List Int) : enUpto N m 0 = [] := rfl
theorem enUpto_yes {N : NetD} {m : List Int} {k : Nat} (h : coversB m (N.tr k).pre = true) : enUpto N m (k + 1) = enUpto N m k ++ [(k : Int)] := by
  unfold enUpto; rw [List.range_succ, List.filter_append]; simp [h]
theorem enUpto_no {N : NetD} {m : List Int} {k : Nat} (h : coversB m (N.tr k).pre = false) : enUpto N m (k + 1) = enUpto N m k := by
  unfold enUpto; rw [List.range_succ, List.filter_append]; simp [h]
theorem enUpto_all (N : NetD) (m : List Int) : enUpto N m N.trans.length = enabledL N m := rfl
theorem enUpto_len (N : NetD) (m : List Int) (k : Nat) : (enUpto N m k).length ≤ k := by
  unfold enUpto
  rw [List.length_map]
  exact Nat.le_trans (List.length_filter_le _ _) (by simp)

/-- a run, seen from its first k firings -/
def RunUpto (N : NetD) (m seq : List Int) (k : Nat) (x : List Int) : Prop := runL N m seq = runL N x (seq.drop k)
theorem RunUpto.zero (N : NetD) (m seq : List Int) : RunUpto N m seq 0 m := rfl
theorem drop_cons {seq : List Int} {k : Nat} (h : k < seq.length) : seq.drop k = nth seq k :: seq.drop (k + 1) := by
  rw [List.drop_eq_getElem_cons h, nth_lt h]
theorem RunUpto.succ {N : NetD} {m seq x y : List Int} {k : Nat} (h : RunUpto N m seq k x) (hk : k < seq.length) (hf : fireF N x (nth seq k) = (y, 0)) : RunUpto N m seq (k + 1) y := by
  unfold RunUpto at *
  rw [h, drop_cons hk, runL, hf, if_pos rfl]
theorem RunUpto.err {N : NetD} {m seq x y : List Int} {k : Nat} {e : Int} (h : RunUpto N m seq k x) (hk : k < seq.length) (hf : fireF N x (nth seq k) = (y, e)) (he : e ≠ 0) : runL N m seq = ([], e) := by
  unfold RunUpto at h
  rw [h, drop_cons hk, runL, hf, if_neg he]
theorem RunUpto.done {N : NetD} {m seq x : List Int} {k : Nat} (h : RunUpto N m seq k x) (hk : seq.length ≤ k) : runL N m seq = (x, 0) := by
  unfold RunUpto at h
  rw [h, List.drop_eq_nil_of_le hk, runL]

attribute [irreducible] fitsB fitsC fireL fireF runL runF enabledL enabledF enUpto RunUpto
attribute [irreducible] TransR NetR tranOkB netOkB wrongC TransOk badW NetD.tr
end Go.Tok

/- A map whose keys are a set and whose elements are all 1: look-up, 'm[k]++' at a new key, its length. No program is in sight here. -/
namespace Go.Tok
open Go.RowKit
open Go.MapKept (Stamped)
open Go.ChangeMaps (setBlock)
open Go.WideMaps (KeyLaw)
set_option linter.unusedVariables false

/-- block b is a map with the keys xs, each once, each with element 1 -/
def MSet (P : Program) (k : TypeId) (w : World) (b : Nat) (xs : List Value) : Prop :=
  ∃ es clock, w.heap[b]? = some (.map es clock) ∧ Stamped es clock ∧ es.toList.map (·.key) = xs ∧ (∀ x ∈ xs, ∃ l, keyOf P k x = some l) ∧ ∀ e ∈ es.toList, e.val = .int .i64 1
/-- the same, and a key more, with element 0 -/
def MHalf (P : Program) (k : TypeId) (w : World) (b : Nat) (xs : List Value) (key : Value) : Prop :=
  ∃ es clock, w.heap[b]? = some (.map (es.push ⟨key, .int .i64 0, clock⟩) (clock + 1)) ∧ Stamped es clock ∧ es.toList.map (·.key) = xs ∧ (∀ x ∈ xs, ∃ l, keyOf P k x = some l) ∧ ∀ e ∈ es.toList, e.val = .int .i64 1

section
variable {P : Program} {k t e : TypeId} {w : World} {b : Nat} {xs : List Value}
theorem MSet.new (w : World) : MSet P k (w.alloc (.map #[] 0)) w.heap.size [] :=
  ⟨#[], 0, heap_alloc_new w _, MapKept.stamped_empty 0, rfl, by simp, by simp⟩
theorem MSet.lt (h : MSet P k w b xs) : b < w.heap.size := by
  obtain ⟨es, clock, hb, _⟩ := h
  exact (Array.getElem?_eq_some_iff.1 hb).1
theorem MSet.block {w' : World} (h : MSet P k w b xs) (hb : w'.heap[b]? = w.heap[b]?) : MSet P k w' b xs := by
  obtain ⟨es, clock, h1, h2⟩ := h
  exact ⟨es, clock, hb.trans h1, h2⟩
theorem MSet.gr {w' : World} (h : MSet P k w b xs) (g : Gr w w') : MSet P k w' b xs := h.block (g.below.block b h.lt)
theorem MSet.keys (h : MSet P k w b xs) : ∀ x ∈ xs, ∃ l, keyOf P k x = some l := by
  obtain ⟨_, _, _, _, _, h, _⟩ := h
  exact h
theorem MSet.nodup (h : MSet P k w b xs) : xs.Nodup := by
  obtain ⟨es, clock, _, h2, h3, _⟩ := h
  rw [← h3]; exact h2.2.2
theorem MSet.look_no (K : KeyLaw P k) (ht : P.underlying t = some (.map k e)) (hz : ∀ u : World, (zeroValue e).run P u = .ok (.int .i64 0) u) (h : MSet P k w b xs) {key : Value} {l : Lit} (hk : keyOf P k key = some l) (hn : key ∉ xs) :
    (Instr.lookup t (.map (some b)) key false).run P w = .ok (.int .i64 0) w := by
  obtain ⟨es, clock, hb, hs, rfl, hks, hv⟩ := h
  rcases K.find w hk es.toList (fun x hx => hks _ (List.mem_map.2 ⟨x, hx, rfl⟩)) with ⟨h1, h2⟩ | ⟨j, e0, h1, h2, h3⟩
  · simp [Instr.lookup, run_underlying ht, MapKept.run_getObj_map hb, K.check w _ hk, h1, hz, Result.andThen]
  · exact absurd (List.mem_map.2 ⟨e0, List.mem_of_getElem? h2, h3⟩) hn
theorem MSet.look_yes (K : KeyLaw P k) (ht : P.underlying t = some (.map k e)) (h : MSet P k w b xs) {key : Value} {l : Lit} (hk : keyOf P k key = some l) (hn : key ∈ xs) :
    (Instr.lookup t (.map (some b)) key false).run P w = .ok (.int .i64 1) w := by
  obtain ⟨es, clock, hb, hs, rfl, hks, hv⟩ := h
  rcases K.find w hk es.toList (fun x hx => hks _ (List.mem_map.2 ⟨x, hx, rfl⟩)) with ⟨h1, h2⟩ | ⟨j, e0, h1, h2, h3⟩
  · obtain ⟨x, hx, hxk⟩ := List.mem_map.1 hn
    exact absurd hxk (h2 x hx)
  · simp [Instr.lookup, run_underlying ht, MapKept.run_getObj_map hb, K.check w _ hk, h1, hv e0 (List.mem_of_getElem? h2), Result.andThen]
/-- only block b has turned -/
def OnlyAt (b : Nat) (w w' : World) : Prop := w'.os = w.os ∧ w'.tape = w.tape ∧ w'.output = w.output ∧ w'.heap.size = w.heap.size ∧ ∀ c, c ≠ b → w'.heap[c]? = w.heap[c]?
theorem onlyAt_set (w : World) (b : Nat) (o : Obj) : OnlyAt b w (setBlock w b o) :=
  ⟨rfl, rfl, rfl, by simp [setBlock], fun c hc => by simp [setBlock, Ne.symm hc]⟩
theorem OnlyAt.trans {a c : World} (h : OnlyAt b a w) (k : OnlyAt b w c) : OnlyAt b a c :=
  ⟨k.1.trans h.1, k.2.1.trans h.2.1, k.2.2.1.trans h.2.2.1, k.2.2.2.1.trans h.2.2.2.1, fun x hx => (k.2.2.2.2 x hx).trans (h.2.2.2.2 x hx)⟩
/-- 'm[k]++' at a new key, its first half: the entry is laid with 0 -/
theorem MSet.entry (K : KeyLaw P k) (ht : P.underlying t = some (.map k e)) (hz : ∀ u : World, (zeroValue e).run P u = .ok (.int .i64 0) u) (h : MSet P k w b xs) {key : Value} {l : Lit} (hk : keyOf P k key = some l) (hn : key ∉ xs) :
    ∃ (st : Nat) (w1 : World), (Instr.mapEntry t (.map (some b)) key).run P w = .ok (.tuple #[.int .i64 0, goInt st]) w1 ∧ OnlyAt b w w1 ∧ (Instr.lookup t (.map (some b)) key false).run P w1 = .ok (.int .i64 0) w1 ∧
      ∀ w2 : World, w2.heap[b]? = w1.heap[b]? → ∃ w3, (Instr.entryStore t (.map (some b)) (goInt st) (.int .i64 1)).run P w2 = .ok () w3 ∧ OnlyAt b w2 w3 ∧ MSet P k w3 b (xs ++ [key]) := by
  obtain ⟨es, clock, hb, hs, rfl, hks, hv⟩ := h
  have hlt : b < w.heap.size := (Array.getElem?_eq_some_iff.1 hb).1
  have hkeys : ∀ x ∈ es.toList, ∃ l, keyOf P k x.key = some l := fun x hx => hks _ (List.mem_map.2 ⟨x, hx, rfl⟩)
  rcases K.find w hk es.toList hkeys with ⟨h1, h2⟩ | ⟨j, e0, h1, h2, h3⟩
  case inr => exact absurd (List.mem_map.2 ⟨e0, List.mem_of_getElem? h2, h3⟩) hn
  have hb1 : (setBlock w b (.map (es.push ⟨key, .int .i64 0, clock⟩) (clock + 1))).heap[b]? = some (.map (es.push ⟨key, .int .i64 0, clock⟩) (clock + 1)) := by
    simp [setBlock, hlt]
  refine ⟨clock, setBlock w b (.map (es.push ⟨key, .int .i64 0, clock⟩) (clock + 1)), ?_, onlyAt_set _ _ _, ?_, fun w2 hw2 => ⟨setBlock w2 b (.map (es.push ⟨key, .int .i64 1, clock⟩) (clock + 1)), ?_, onlyAt_set _ _ _, ?_⟩⟩
  · simp [Instr.mapEntry, run_underlying ht, MapKept.run_getObj_map hb, K.check w false hk, h1, hz, MapKept.run_setObj_map _ hb, Result.andThen, setBlock]
  · rcases K.find (setBlock w b (.map (es.push ⟨key, .int .i64 0, clock⟩) (clock + 1))) hk (es.push ⟨key, .int .i64 0, clock⟩).toList (fun x hx => by
      rw [Array.toList_push, List.mem_append] at hx
      rcases hx with hx | hx
      · exact hkeys x hx
      · rw [List.mem_singleton.1 hx]; exact ⟨l, hk⟩) with ⟨h3, h4⟩ | ⟨j, e0, h3, h4, h5⟩
    · exact absurd rfl (h4 ⟨key, .int .i64 0, clock⟩ (by simp))
    · have he : e0.val = .int .i64 0 := by
        have hm := List.mem_of_getElem? h4
        rw [Array.toList_push, List.mem_append] at hm
        rcases hm with hm | hm
        · exact absurd h5 (h2 e0 hm)
        · rw [List.mem_singleton.1 hm]
      rw [Array.toList_push] at h3
      simp [Instr.lookup, run_underlying ht, MapKept.run_getObj_map hb1, K.check _ _ hk, h3, he, Result.andThen]
  · rw [hb1] at hw2
    have hidx : (es.push ⟨key, .int .i64 0, clock⟩).findIdx? (fun e => ((e.born : Nat) : Int) == ((clock : Nat) : Int)) = some es.size := by
      rw [WideElems.findIdx_arr]
      have := WideElems.findIdx_born (l := (es.push ⟨key, .int .i64 0, clock⟩).toList) (j := es.size) (e0 := ⟨key, .int .i64 0, clock⟩) (by
        simp only [Array.toList_push, List.map_append, List.map_cons, List.map_nil]
        refine List.nodup_append.2 ⟨hs.2.1, by simp, fun a ha c hc e1 => ?_⟩
        simp only [List.mem_singleton] at hc
        obtain ⟨x, hx, rfl⟩ := List.mem_map.1 ha
        have := hs.1 x hx
        omega) (by simp)
      exact this
    have hmod : (es.push ⟨key, .int .i64 0, clock⟩).modify es.size (fun e => { e with val := .int .i64 1 }) = es.push ⟨key, .int .i64 1, clock⟩ := by
      apply Array.ext'
      rw [Array.toList_modify, Array.toList_push, Array.toList_push, ← Array.length_toList, WideElems.modify_last]
    simp [Instr.entryStore, MapKept.run_getObj_map hw2, asInt, asIntOf, goInt, hidx, hmod, MapKept.run_setObj_map _ hw2, Result.andThen, setBlock]
  · have hlt2 : b < w2.heap.size := by
      rw [hb1] at hw2
      exact (Array.getElem?_eq_some_iff.1 hw2).1
    refine ⟨es.push ⟨key, .int .i64 1, clock⟩, clock + 1, by simp [setBlock, hlt2], ⟨?_, ?_, ?_⟩, by simp, ?_, ?_⟩
    · intro x hx
      rw [Array.toList_push, List.mem_append] at hx
      rcases hx with hx | hx
      · have := hs.1 x hx; omega
      · rw [List.mem_singleton.1 hx]; exact Nat.lt_succ_self _
    · simp only [Array.toList_push, List.map_append, List.map_cons, List.map_nil]
      refine List.nodup_append.2 ⟨hs.2.1, by simp, fun a ha c hc e1 => ?_⟩
      simp only [List.mem_singleton] at hc
      obtain ⟨x, hx, rfl⟩ := List.mem_map.1 ha
      have := hs.1 x hx
      omega
    · simp only [Array.toList_push, List.map_append, List.map_cons, List.map_nil]
      refine List.nodup_append.2 ⟨hs.2.2, by simp, fun a ha c hc e1 => ?_⟩
      simp only [List.mem_singleton] at hc
      subst hc e1
      exact hn ha
    · intro x hx
      rcases List.mem_append.1 hx with h3 | h3
      · exact hks x h3
      · rw [List.mem_singleton.1 h3]; exact ⟨l, hk⟩
    · intro x hx
      rw [Array.toList_push, List.mem_append] at hx
      rcases hx with hx | hx
      · exact hv x hx
      · rw [List.mem_singleton.1 hx]
end
end Go.Tok

/- Plain laws of firing and of runs. No program is in sight here. -/
namespace Go.Tok

/-- transition k fires at x and leads to y -/
structure Fires (N : NetD) (x : List Int) (k : Nat) (y : List Int) : Prop where
  lt : k < N.trans.length
  len : y.length = x.length
  pre : ∀ p, nth (N.tr k).pre p ≤ nth x p
  eq : ∀ p, nth y p = nth x p - nth (N.tr k).pre p + nth (N.tr k).post p
  le : ∀ p, nth y p ≤ 1000000

theorem w_nth {N : NetD} {t : TranD} (F : TranFacts N t) (p : Nat) : 0 ≤ nth t.pre p ∧ nth t.pre p ≤ 9 ∧ 0 ≤ nth t.post p ∧ nth t.post p ≤ 9 := by
  refine ⟨?_, ?_, ?_, ?_⟩
  all_goals
    first
    | (by_cases hp : p < t.pre.length
       · rw [nth_lt hp]; have := F.preW _ (List.getElem_mem hp); omega
       · rw [nth_ge (by omega)]; omega)
    | (by_cases hp : p < t.post.length
       · rw [nth_lt hp]; have := F.postW _ (List.getElem_mem hp); omega
       · rw [nth_ge (by omega)]; omega)

theorem fits_mk {N : NetD} {x : List Int} (h1 : netOkB N = true) (h2 : (x.length : Int) = N.places) (h3 : rightB x = true) : fitsB N x = true := by
  unfold fitsB; simp [h1, h2, h3]
theorem fits_nth {N : NetD} {x : List Int} (h : fitsB N x = true) (p : Nat) : 0 ≤ nth x p ∧ nth x p ≤ 1000000 := rightB_nth (fits_sizes h).2.2.2.2.2.1 p
theorem fits_ok {N : NetD} {x : List Int} (h : fitsB N x = true) : netOkB N = true := (fits_sizes h).2.2.2.2.2.2
theorem fits_len {N : NetD} {x : List Int} (h : fitsB N x = true) : (x.length : Int) = N.places := (fits_sizes h).2.2.2.2.1

theorem Fires.fits {N : NetD} {x y : List Int} {k : Nat} (h : Fires N x k y) (hx : fitsB N x = true) : fitsB N y = true := by
  refine fits_mk (fits_ok hx) (by rw [h.len]; exact fits_len hx) (right_of_nth fun p _ => ⟨?_, h.le p⟩)
  have := w_nth (netOk_tr (fits_ok hx) h.lt) p
  have := h.pre p
  rw [h.eq p]; omega

/-- the three ways of a firing -/
theorem fire_cases {N : NetD} {x : List Int} (t : Int) (hx : fitsB N x = true) :
    (∃ (k : Nat) (y : List Int), t = k ∧ Fires N x k y ∧ fireF N x t = (y, 0)) ∨
    (fireF N x t = ([], 3) ∧ (t < 0 ∨ (N.trans.length : Int) ≤ t ∨ ∃ k : Nat, t = k ∧ k < N.trans.length ∧ ∃ p, nth x p < nth (N.tr k).pre p)) ∨
    (fireF N x t = ([], 4) ∧ ∃ k : Nat, t = k ∧ k < N.trans.length ∧ (∀ p, nth (N.tr k).pre p ≤ nth x p) ∧ ∃ p, 1000000 < nth x p - nth (N.tr k).pre p + nth (N.tr k).post p) := by
  by_cases h0 : t < 0
  · exact .inr (.inl ⟨fireF_range hx (.inl h0), .inl h0⟩)
  by_cases h1 : (N.trans.length : Int) ≤ t
  · exact .inr (.inl ⟨fireF_range hx (.inr h1), .inr (.inl h1)⟩)
  obtain ⟨k, rfl⟩ := Int.eq_ofNat_of_zero_le (show 0 ≤ t by omega)
  have hk : k < N.trans.length := by omega
  have F := netOk_tr (fits_ok hx) hk
  obtain ⟨_, _, _, _, _, hr, _⟩ := fits_sizes hx
  have hl := fits_len hx
  have hp := F.pre
  have hq := F.post
  rcases minus_cases x (N.tr k).pre with ⟨_, h2 | h2⟩ | ⟨h2, _, _, h3⟩ | ⟨_, _, h2, L, h3, h4, h5, h6⟩
  · rw [hr] at h2; cases h2
  · rw [F.rPre] at h2; cases h2
  · exact .inr (.inl ⟨fireF_not hx hk h2 (by decide), .inr (.inr ⟨k, rfl, hk, h3⟩)⟩)
  · rw [fireF_ok hx hk h3]
    rcases plus_cases L (N.tr k).post with ⟨_, h7 | h7⟩ | ⟨h7, _, _, p, h8⟩ | ⟨_, _, h7, Y, h8, h9, h10, h11⟩
    · rw [h6] at h7; cases h7
    · rw [F.rPost] at h7; cases h7
    · exact .inr (.inr ⟨h7, k, rfl, hk, h2, p, by rw [h5] at h8; omega⟩)
    · refine .inl ⟨k, Y, rfl, ⟨hk, by omega, h2, fun p => by rw [h10, h5], fun p => ?_⟩, h8⟩
      have := rightB_nth h11 p; omega

theorem fire_ok {N : NetD} {x y : List Int} {t : Int} (hx : fitsB N x = true) (h : fireF N x t = (y, 0)) : ∃ k : Nat, t = k ∧ Fires N x k y := by
  rcases fire_cases t hx with ⟨k, y', h1, h2, h3⟩ | ⟨h1, _⟩ | ⟨h1, _⟩
  · rw [h3] at h; cases h; exact ⟨k, h1, h2⟩
  · rw [h1] at h; cases h
  · rw [h1] at h; cases h
theorem fire_bad {N : NetD} {x y : List Int} {t e : Int} (h : fireF N x t = (y, e)) (he : e ≠ 0) : y = [] ∧ (e = 2 ∨ e = 3 ∨ e = 4) := by
  cases hx : fitsB N x
  · rw [fireF_unfit hx] at h; cases h; exact ⟨rfl, .inl rfl⟩
  rcases fire_cases t hx with ⟨k, y', h1, h2, h3⟩ | ⟨h1, _⟩ | ⟨h1, _⟩
  · rw [h3] at h; cases h; exact absurd rfl he
  · rw [h1] at h; cases h; exact ⟨rfl, .inr (.inl rfl)⟩
  · rw [h1] at h; cases h; exact ⟨rfl, .inr (.inr rfl)⟩
theorem Fires.unique {N : NetD} {x y z : List Int} {k : Nat} (h : Fires N x k y) (h' : Fires N x k z) : y = z :=
  ext_nth (by rw [h.len, h'.len]) fun p _ => by rw [h.eq, h'.eq]
theorem fire_eq {N : NetD} {x y : List Int} {k : Nat} (hx : fitsB N x = true) (h : Fires N x k y) : fireF N x k = (y, 0) := by
  rcases fire_cases (k : Int) hx with ⟨k', y', h1, h2, h3⟩ | ⟨_, h1 | h1 | ⟨k', h1, h2, p, h3⟩⟩ | ⟨_, k', h1, h2, h3, p, h4⟩
  · have : k = k' := by omega
    subst this
    rw [h3, h.unique h2]
  · omega
  · have := h.lt; omega
  · have : k = k' := by omega
    subst this
    have := h.pre p; omega
  · have : k = k' := by omega
    subst this
    have := h.le p; have := h.eq p; omega
/-- a firing that can be done -/
theorem fires_mk {N : NetD} {x : List Int} {k : Nat} (hx : fitsB N x = true) (hk : k < N.trans.length) (h1 : ∀ p, nth (N.tr k).pre p ≤ nth x p) (h2 : ∀ p, nth x p - nth (N.tr k).pre p + nth (N.tr k).post p ≤ 1000000) : ∃ y, Fires N x k y := by
  rcases fire_cases (k : Int) hx with ⟨k', y', h3, h4, h5⟩ | ⟨_, h3 | h3 | ⟨k', h3, h4, p, h5⟩⟩ | ⟨_, k', h3, h4, h5, p, h6⟩
  · have : k = k' := by omega
    subst this
    exact ⟨y', h4⟩
  · omega
  · omega
  · have : k = k' := by omega
    subst this
    have := h1 p; omega
  · have : k = k' := by omega
    subst this
    have := h2 p; omega

/-- a run -/
inductive Runs (N : NetD) : List Int → List Int → List Int → Prop
  | nil (x : List Int) : Runs N x [] x
  | cons {x y z s : List Int} {k : Nat} (h : Fires N x k y) (h' : Runs N y s z) : Runs N x ((k : Int) :: s) z

theorem Runs.fits {N : NetD} {x s z : List Int} (h : Runs N x s z) : fitsB N x = true → fitsB N z = true := by
  induction h with
  | nil x => exact id
  | cons h _ ih => exact fun hx => ih (h.fits hx)
theorem runL_nil (N : NetD) (x : List Int) : runL N x [] = (x, 0) := by rw [runL]
theorem runL_cons (N : NetD) (x : List Int) (t : Int) (s : List Int) : runL N x (t :: s) = if (fireF N x t).2 = 0 then runL N (fireF N x t).1 s else ([], (fireF N x t).2) := by rw [runL]
theorem runs_of {N : NetD} {s : List Int} : ∀ {x z : List Int}, fitsB N x = true → runL N x s = (z, 0) → Runs N x s z := by
  induction s with
  | nil => intro x z _ h; rw [runL_nil] at h; cases h; exact .nil _
  | cons t s ih =>
    intro x z hx h
    rw [runL_cons] at h
    rcases hf : fireF N x t with ⟨y, e⟩
    rw [hf] at h
    by_cases he : e = 0
    · subst he
      obtain ⟨k, rfl, hF⟩ := fire_ok hx hf
      simp only [if_true] at h
      exact .cons hF (ih (hF.fits hx) h)
    · simp only [if_neg he] at h
      cases h; exact absurd rfl he
theorem Runs.run {N : NetD} {x s z : List Int} (h : Runs N x s z) : fitsB N x = true → runL N x s = (z, 0) := by
  induction h with
  | nil x => exact fun _ => runL_nil N x
  | cons h _ ih =>
    intro hx
    rw [runL_cons, fire_eq hx h]
    simp only [if_true]
    exact ih (h.fits hx)
theorem runF_of {N : NetD} {m s z : List Int} (h : runF N m s = (z, 0)) : fitsB N m = true ∧ Runs N m s z := by
  cases hf : fitsB N m
  · rw [runF_unfit hf] at h; cases h
  · rw [runF_fit hf] at h; exact ⟨rfl, runs_of hf h⟩
theorem Runs.runF {N : NetD} {m s z : List Int} (h : Runs N m s z) (hf : fitsB N m = true) : runF N m s = (z, 0) := by rw [runF_fit hf]; exact h.run hf
theorem run_bad {N : NetD} {s : List Int} : ∀ {x z : List Int} {e : Int}, runL N x s = (z, e) → e ≠ 0 → z = [] ∧ (e = 2 ∨ e = 3 ∨ e = 4) := by
  induction s with
  | nil => intro x z e h he; rw [runL_nil] at h; cases h; exact absurd rfl he
  | cons t s ih =>
    intro x z e h he
    rw [runL_cons] at h
    rcases hf : fireF N x t with ⟨y, e'⟩
    rw [hf] at h
    by_cases he' : e' = 0
    · subst he'; simp only [if_true] at h; exact ih h he
    · simp only [if_neg he'] at h
      cases h
      exact ⟨rfl, (fire_bad hf he).2⟩
theorem runF_bad {N : NetD} {m s z : List Int} {e : Int} (h : runF N m s = (z, e)) (he : e ≠ 0) : z = [] ∧ (e = 2 ∨ e = 3 ∨ e = 4) := by
  cases hf : fitsB N m
  · rw [runF_unfit hf] at h; cases h; exact ⟨rfl, .inl rfl⟩
  · rw [runF_fit hf] at h; exact run_bad h he

/-! ### more tokens remain -/
theorem more_step {N : NetD} {x y X more : List Int} {k : Nat} {B : Int} (hx : fitsB N x = true) (hX : fitsB N X = true) (h : Fires N x k y) (hm : ∀ p, 0 ≤ nth more p ∧ nth more p ≤ 400000) (hXx : ∀ p, nth X p = nth x p + nth more p) (hlen : X.length = x.length)
    (hB : ∀ p, nth x p ≤ B) (hBB : B + 9 ≤ 600000) : ∃ Y, Fires N X k Y ∧ (∀ p, nth Y p = nth y p + nth more p) ∧ Y.length = y.length ∧ (∀ p, nth y p ≤ B + 9) := by
  have F := netOk_tr (fits_ok hx) h.lt
  have hb : ∀ p, nth y p ≤ B + 9 := fun p => by
    have := w_nth F p; have := h.eq p; have := hB p; omega
  obtain ⟨Y, hY⟩ := fires_mk hX h.lt (fun p => by have := h.pre p; have := hm p; rw [hXx]; omega) (fun p => by
    have := hb p; have := h.eq p; have := hm p; rw [hXx]; omega)
  exact ⟨Y, hY, fun p => by rw [hY.eq, h.eq, hXx]; omega, by rw [hY.len, h.len, hlen], hb⟩
theorem more_runs {N : NetD} {more : List Int} (hm : ∀ p, 0 ≤ nth more p ∧ nth more p ≤ 400000) {x s z : List Int} (h : Runs N x s z) : ∀ {X : List Int} {B : Int}, fitsB N x = true → fitsB N X = true → (∀ p, nth X p = nth x p + nth more p) → X.length = x.length →
    (∀ p, nth x p ≤ B) → B + 9 * s.length ≤ 600000 → ∃ Z, Runs N X s Z ∧ (∀ p, nth Z p = nth z p + nth more p) ∧ Z.length = z.length ∧ (∀ p, nth z p ≤ 600000) := by
  induction h with
  | nil x => intro X B _ _ h1 h2 h3 h4; exact ⟨X, .nil _, h1, h2, fun p => by have := h3 p; simp at h4; omega⟩
  | @cons x y z s k hF _ ih =>
    intro X B hx hX h1 h2 h3 h4
    simp only [List.length_cons] at h4
    obtain ⟨Y, y1, y2, y3, y4⟩ := more_step hx hX hF hm h1 h2 h3 (by omega)
    obtain ⟨Z, z1, z2, z3, z4⟩ := ih (hF.fits hx) (y1.fits hX) y2 y3 y4 (by omega)
    exact ⟨Z, .cons y1 z1, z2, z3, z4⟩

/-- the law of NetMore, where the run is one -/
theorem net_more {N : NetD} {m more seq x : List Int} (h : runF N m seq = (x, 0)) (hl : more.length = m.length) (hs : seq.length ≤ 1000) (hb : ∀ p, p < m.length → nth m p ≤ 400000 ∧ nth more p ≤ 400000 ∧ 0 ≤ nth more p) :
    ∃ big y, zipF plusf m more = (big, 0) ∧ runF N big seq = (y, 0) ∧ zipF plusf x more = (y, 0) := by
  obtain ⟨hf, hr⟩ := runF_of h
  have hm : ∀ p, 0 ≤ nth more p ∧ nth more p ≤ 400000 := fun p => by
    by_cases hp : p < m.length
    · have := hb p hp; omega
    · rw [nth_ge (by omega)]; omega
  have hm' : ∀ p, nth m p ≤ 400000 := fun p => by
    by_cases hp : p < m.length
    · have := hb p hp; omega
    · rw [nth_ge (by omega)]; omega
  have rm : rightB more = true := right_of_nth fun p _ => by have := hm p; omega
  obtain ⟨_, _, _, _, hfl, hfr, hfo⟩ := fits_sizes hf
  obtain ⟨big, b1, b2, b3, b4⟩ := plus_ok hfr rm fun p => by have := hm p; have := hm' p; omega
  have hX : fitsB N big = true := fits_mk hfo (by rw [b2, hl, Nat.max_self]; exact hfl) b4
  obtain ⟨Z, z1, z2, z3, z4⟩ := more_runs hm hr hf hX b3 (by rw [b2, hl, Nat.max_self]) hm' (by omega)
  have hxf := hr.fits hf
  obtain ⟨W, w1, w2, w3, w4⟩ := plus_ok (fits_sizes hxf).2.2.2.2.2.1 rm fun p => by have := hm p; have := z4 p; omega
  have hxl : (x.length : Int) = N.places := fits_len hxf
  have e : W = Z := ext_nth (by omega) fun p _ => by rw [w3, z2]
  exact ⟨big, Z, b1, z1.runF hX, e ▸ w1⟩

/-! ### transitions whose tokens are there together -/
theorem pre_both {N : NetD} {t u : Nat} (hN : netOkB N = true) (ht : t < N.trans.length) (hu : u < N.trans.length) : ∃ L, zipF plusf (N.tr t).pre (N.tr u).pre = (L, 0) ∧ L.length ≤ 16 ∧ ∀ p, nth L p = nth (N.tr t).pre p + nth (N.tr u).pre p := by
  have F := netOk_tr hN ht
  have G := netOk_tr hN hu
  obtain ⟨L, h1, h2, h3, _⟩ := plus_ok F.rPre G.rPre fun p => by have := w_nth F p; have := w_nth G p; omega
  have h16 : N.places ≤ 16 := by
    unfold netOkB at hN
    simp only [Bool.and_eq_true, decide_eq_true_eq] at hN
    omega
  have := F.pre
  have := G.pre
  exact ⟨L, h1, by omega, h3⟩
theorem swap_one {N : NetD} {m : List Int} {t u : Nat} (hf : fitsB N m = true) (ht : t < N.trans.length) (hu : u < N.trans.length) (hm : ∀ p, nth m p ≤ 900000) (hc : ∀ p, nth (N.tr t).pre p + nth (N.tr u).pre p ≤ nth m p) :
    ∃ x y, Fires N m t x ∧ Fires N x u y ∧ ∀ p, nth y p = nth m p - nth (N.tr t).pre p + nth (N.tr t).post p - nth (N.tr u).pre p + nth (N.tr u).post p := by
  have F := netOk_tr (fits_ok hf) ht
  have G := netOk_tr (fits_ok hf) hu
  obtain ⟨x, hx⟩ := fires_mk hf ht (fun p => by have := hc p; have := w_nth G p; omega) (fun p => by have := hm p; have := w_nth F p; omega)
  obtain ⟨y, hy⟩ := fires_mk (hx.fits hf) hu (fun p => by have := hc p; have := hx.eq p; have := w_nth F p; omega) (fun p => by have := hm p; have := w_nth F p; have := w_nth G p; have := hx.eq p; omega)
  exact ⟨x, y, hx, hy, fun p => by rw [hy.eq, hx.eq]⟩
theorem net_swap {N : NetD} {m L : List Int} {t u : Nat} (hf : fitsB N m = true) (ht : t < N.trans.length) (hu : u < N.trans.length) (hm : ∀ p, nth m p ≤ 900000) (hL : ∀ p, nth L p = nth (N.tr t).pre p + nth (N.tr u).pre p) (hc : coversB m L = true) :
    ∃ x, runF N m [(t : Int), (u : Int)] = (x, 0) ∧ runF N m [(u : Int), (t : Int)] = (x, 0) := by
  have hcc : ∀ p, nth (N.tr t).pre p + nth (N.tr u).pre p ≤ nth m p := fun p => by have := (coversB_iff _ _).1 hc p; rw [hL] at this; exact this
  obtain ⟨x, y, h1, h2, h3⟩ := swap_one hf ht hu hm hcc
  obtain ⟨x', y', h1', h2', h3'⟩ := swap_one hf hu ht hm (fun p => by have := hcc p; omega)
  have e : y' = y := ext_nth (by rw [h2'.len, h1'.len, h2.len, h1.len]) fun p _ => by rw [h3, h3']; omega
  subst e
  exact ⟨y', Runs.runF (.cons h1 (.cons h2 (.nil _))) hf, Runs.runF (.cons h1' (.cons h2' (.nil _))) hf⟩
/-! ### runs compose; what is enabled fires -/
theorem runL_append {N : NetD} : ∀ (a b : List Int) (x : List Int), runL N x (a ++ b) = if (runL N x a).2 = 0 then runL N (runL N x a).1 b else runL N x a
  | [], b, x => by rw [runL_nil]; simp
  | t :: a, b, x => by
    rw [List.cons_append, runL_cons, runL_cons]
    split
    · exact runL_append a b _
    · rfl
theorem parts_ok {N : NetD} {m a b x : List Int} (h : runF N m a = (x, 0)) : runF N m (a ++ b) = runF N x b := by
  obtain ⟨hf, hr⟩ := runF_of h
  rw [runF_fit hf, runL_append, hr.run hf]
  simp only [if_true]
  rw [runF_fit (hr.fits hf)]
theorem parts_bad {N : NetD} {m a b x : List Int} {e : Int} (h : runF N m a = (x, e)) (he : e ≠ 0) : runF N m (a ++ b) = (x, e) := by
  cases hf : fitsB N m
  · rw [runF_unfit hf] at h ⊢; exact h
  · rw [runF_fit hf] at h ⊢
    rw [runL_append, h, if_neg he]
theorem enabled_has {N : NetD} {m : List Int} (t : Int) : hasB (enabledL N m) t = true ↔ ∃ k : Nat, t = k ∧ k < N.trans.length ∧ ∀ p, nth (N.tr k).pre p ≤ nth m p := by
  rw [hasB_iff]
  unfold enabledL
  simp only [List.mem_map, List.mem_filter, List.mem_range]
  constructor
  · rintro ⟨k, ⟨h1, h2⟩, rfl⟩
    exact ⟨k, rfl, h1, (coversB_iff _ _).1 h2⟩
  · rintro ⟨k, rfl, h1, h2⟩
    exact ⟨k, ⟨h1, (coversB_iff _ _).2 h2⟩, rfl⟩
/-- firing, and being enabled -/
theorem fire_enabled {N : NetD} {m : List Int} (hf : fitsB N m = true) (t : Int) : ∃ y, (fireF N m t = (y, 0) ∧ hasB (enabledL N m) t = true) ∨ (fireF N m t = (y, 4) ∧ hasB (enabledL N m) t = true) ∨ (fireF N m t = (y, 3) ∧ hasB (enabledL N m) t = false) := by
  rcases fire_cases t hf with ⟨k, y', h1, h2, h3⟩ | ⟨h1, h2⟩ | ⟨h1, k, h2, h3, h4, _⟩
  · exact ⟨y', .inl ⟨h3, (enabled_has t).2 ⟨k, h1, h2.lt, h2.pre⟩⟩⟩
  · refine ⟨[], .inr (.inr ⟨h1, ?_⟩)⟩
    rw [Bool.eq_false_iff]
    intro h
    obtain ⟨k, rfl, h3, h4⟩ := (enabled_has t).1 h
    rcases h2 with h2 | h2 | ⟨k', h5, h6, p, h7⟩
    · omega
    · omega
    · have : k = k' := by omega
      subst this
      have := h4 p; omega
  · exact ⟨[], .inr (.inl ⟨h1, (enabled_has t).2 ⟨k, h2, h3, h4⟩⟩)⟩
def over9 (x : Int) : Bool := decide (x > 900000)
theorem over9_def (x : Int) : over9 x = decide (x > 900000) := rfl
theorem over9_all {m : List Int} (h : m.any over9 = false) (p : Nat) : nth m p ≤ 900000 := by
  by_cases hp : p < m.length
  · rw [nth_lt hp]
    have := List.any_eq_false.1 h _ (List.getElem_mem hp)
    simp [over9] at this; exact this
  · rw [nth_ge (by omega)]; omega
attribute [irreducible] over9
end Go.Tok

/- Literals of transitions, as the program lays them. No program is in sight here. -/
namespace Go.Tok
open Go.RowKit

theorem lit_at {w : World} {H i : Nat} {cs : Array Value} {t : TypeId} {v : Value} (hH : w.heap.size = H) (hi : cs[i]? = some v) : (w.alloc (.cells cs t)).cell? ⟨H, i, none⟩ = some v := by
  subst hH
  exact box_cell (Gr.refl _) hi

theorem TransR.intro {w : World} {v : Value} {ts : List TranD} {a : Option Addr} {cap : Nat} (h1 : v = .slice a ts.length cap) (h2 : ts.length ≤ cap) (h3 : cap ≤ maxLen)
    (h4 : ∀ i, i < ts.length → ∃ b o vp vq, a = some ⟨b, o, none⟩ ∧ w.cell? ⟨b, o + i * 3, none⟩ = some (.int .i64 (ts.getD i default).label) ∧ w.cell? ⟨b, o + i * 3 + 1, none⟩ = some vp ∧ w.cell? ⟨b, o + i * 3 + 2, none⟩ = some vq ∧
      I64 (ts.getD i default).label ∧ Ints w vp (ts.getD i default).pre ∧ Ints w vq (ts.getD i default).post) : TransR w v ts := by
  unfold TransR
  exact ⟨a, cap, h1, h2, h3, h4⟩

theorem TransR.lit1 {w : World} {H : Nat} {t : TypeId} {l0 : Int} {p0 q0 : Value} {a0 b0 : List Int} (hH : w.heap.size = H) (h1 : Ints w p0 a0) (h2 : Ints w q0 b0) (hl : I64 l0) :
    TransR (w.alloc (.cells #[.int .i64 l0, p0, q0] t)) (.slice (some ⟨H, 0, none⟩) 1 1) [⟨l0, a0, b0⟩] := by
  refine TransR.intro (a := some ⟨H, 0, none⟩) (cap := 1) rfl (by simp) (by unfold maxLen; omega) fun i hi => ?_
  obtain rfl : i = 0 := by simp at hi; exact hi
  exact ⟨H, 0, p0, q0, rfl, lit_at hH rfl, lit_at hH rfl, lit_at hH rfl, hl, h1.alloc _, h2.alloc _⟩
theorem TransR.lit2 {w : World} {H : Nat} {t : TypeId} {l0 l1 : Int} {p0 q0 p1 q1 : Value} {a0 b0 a1 b1 : List Int} (hH : w.heap.size = H) (h1 : Ints w p0 a0) (h2 : Ints w q0 b0) (h3 : Ints w p1 a1) (h4 : Ints w q1 b1) (hl : I64 l0) (hl1 : I64 l1) :
    TransR (w.alloc (.cells #[.int .i64 l0, p0, q0, .int .i64 l1, p1, q1] t)) (.slice (some ⟨H, 0, none⟩) 2 2) [⟨l0, a0, b0⟩, ⟨l1, a1, b1⟩] := by
  refine TransR.intro (a := some ⟨H, 0, none⟩) (cap := 2) rfl (by simp) (by unfold maxLen; omega) fun i hi => ?_
  rcases i with _ | _ | i
  · exact ⟨H, 0, p0, q0, rfl, lit_at hH rfl, lit_at hH rfl, lit_at hH rfl, hl, h1.alloc _, h2.alloc _⟩
  · exact ⟨H, 0, p1, q1, rfl, lit_at hH rfl, lit_at hH rfl, lit_at hH rfl, hl1, h3.alloc _, h4.alloc _⟩
  · simp at hi; omega
end Go.Tok

/- Rows of transitions that a call makes itself; blocks that are known whole. No program is in sight here. -/
namespace Go.Tok
open Go.RowKit
set_option linter.unusedVariables false

/-! ### a block that is known whole -/
def Blk (w : World) (g : Nat) (t : TypeId) (cs : Array Value) : Prop := w.heap[g]? = some (.cells cs t (0, 0))
theorem Blk.lt {w : World} {g : Nat} {t : TypeId} {cs : Array Value} (h : Blk w g t cs) : g < w.heap.size := (Array.getElem?_eq_some_iff.1 h).1
theorem Blk.cell {w : World} {g : Nat} {t : TypeId} {cs : Array Value} (h : Blk w g t cs) {i : Nat} {v : Value} (hi : cs[i]? = some v) : w.cell? ⟨g, i, none⟩ = some v := by
  rw [cell_of_row w g i cs t (0, 0) h]; exact hi
theorem Blk.frozen {w : World} {g : Nat} {t : TypeId} {cs : Array Value} (h : Blk w g t cs) (i : Nat) : w.frozen? ⟨g, i, none⟩ = false := by
  unfold Blk at h
  simp [World.frozen?, h]
theorem Blk.gr {w w' : World} {g : Nat} {t : TypeId} {cs : Array Value} (h : Blk w g t cs) (hg : Gr w w') : Blk w' g t cs := (hg.below.block g h.lt).trans h
theorem Blk.new {w : World} {H : Nat} {t : TypeId} {cs : Array Value} (hH : w.heap.size = H) : Blk (w.alloc (.cells cs t)) H t cs := by
  subst hH; exact heap_alloc_new w _
theorem Blk.grown {w w' : World} {g : Nat} {t : TypeId} {cs : Array Value} {row : Option Nat} (h : Blk w g t cs) (hg : w.grownBy w' row) (hne : some g ≠ row) : Blk w' g t cs := (hg.block g h.lt hne).trans h
theorem Blk.other {w : World} {g : Nat} {t : TypeId} {cs : Array Value} (h : Blk w g t cs) {a : Addr} (hne : g ≠ a.block) (u : Value) : Blk (w.setCell a u) g t cs := (Below.heap_setCell w a u g hne).trans h
theorem Blk.set {w : World} {g : Nat} {t : TypeId} {cs : Array Value} (h : Blk w g t cs) (i : Nat) (u : Value) : Blk (w.setCell ⟨g, i, none⟩ u) g t (cs.setIfInBounds i u) := by
  unfold Blk at *
  simp [World.setCell, Array.getElem?_modify, h]

/-! ### ints that stay where another row is written -/
theorem Ints.own_block {w : World} {u : Value} {xs : List Int} (h : Ints w u xs) (hx : xs ≠ []) : ∃ k, u.ownBlock = some k ∧ k < w.heap.size := by
  have h0 : 0 < xs.length := by cases xs with | nil => exact absurd rfl hx | cons => simp
  obtain ⟨a, cap, rfl, _, _⟩ := h.len
  obtain ⟨b, o, rfl, hc⟩ := h.cell h0
  exact ⟨b, rfl, cell_block hc⟩
theorem Ints.kept {w w' : World} {u : Value} {xs : List Int} (h : Ints w u xs) (hk : xs ≠ [] → ∀ b, u.ownBlock = some b → ∀ o, w'.cell? ⟨b, o, none⟩ = w.cell? ⟨b, o, none⟩) : Ints w' u xs := by
  rcases h.form with ⟨rfl, rfl⟩ | ⟨ad, cap, rfl, hl, hc⟩
  · exact Ints.nil _
  · have h' := h
    unfold Ints at h' ⊢
    obtain ⟨a, cap', h1, h2, h3, h4, h5, h6⟩ := h'
    cases h1
    refine ⟨_, _, rfl, h2, h3, h4, h5, fun i hi => ?_⟩
    obtain ⟨b, o, hb, hcell⟩ := h6 i hi
    cases hb
    refine ⟨b, o, rfl, ?_⟩
    rw [hk (by intro e; subst e; simp at hi) b rfl]
    exact hcell
theorem Ints.grown {w w' : World} {u : Value} {xs : List Int} {row : Option Nat} (h : Ints w u xs) (hg : w.grownBy w' row) (hne : xs ≠ [] → ∀ k, u.ownBlock = some k → some k ≠ row) : Ints w' u xs :=
  h.kept fun hx b hb o => by
    obtain ⟨k, h1, h2⟩ := h.own_block hx
    rw [hb] at h1; cases h1
    exact World.cell?_of_block (hg.block b h2 (hne hx b hb))
theorem Ints.other {w : World} {u : Value} {xs : List Int} (h : Ints w u xs) {a : Addr} (hne : xs ≠ [] → ∀ k, u.ownBlock = some k → k ≠ a.block) (x : Value) : Ints (w.setCell a x) u xs :=
  h.kept fun hx b hb o => World.cell?_of_block (Below.heap_setCell w a x b (hne hx b hb))

/-- ints that a call holds beside the row it writes -/
def Held (base : Nat) (row : Option Nat) (w : World) (u : Value) (xs : List Int) : Prop := Ints w u xs ∧ (xs ≠ [] → ∀ k, u.ownBlock = some k → base ≤ k ∧ some k ≠ row)
theorem Held.gr {base : Nat} {row : Option Nat} {w w' : World} {u : Value} {xs : List Int} (h : Held base row w u xs) (g : Gr w w') : Held base row w' u xs := ⟨h.1.gr g, h.2⟩
theorem Held.other {base : Nat} {row : Option Nat} {w : World} {u : Value} {xs : List Int} (h : Held base row w u xs) {a : Addr} (ha : a.block < base) (x : Value) : Held base row (w.setCell a x) u xs :=
  ⟨h.1.other (fun hx k hk => by have := (h.2 hx k hk).1; omega) x, h.2⟩
theorem Held.grown {base : Nat} {row row' : Option Nat} {w w' : World} {u : Value} {xs : List Int} {g : Nat} (h : Held base row w u xs) (hg : w.grownBy w' row) (hr : row' = some g) (hat : row = some g ∨ w.heap.size ≤ g) : Held base row' w' u xs := by
  refine ⟨h.1.grown hg fun hx k hk => (h.2 hx k hk).2, fun hx k hk => ⟨(h.2 hx k hk).1, ?_⟩⟩
  rw [hr]
  rcases hat with h1 | h1
  · rw [← h1]; exact (h.2 hx k hk).2
  · obtain ⟨k', h2, h3⟩ := h.1.own_block hx
    rw [hk] at h2; cases h2
    intro e
    have : k = g := by injection e
    omega
/-- a clone, made when the row already stood -/
theorem Held.fresh {e base b' : Nat} {row : Option Nat} {w w' : World} {u : Value} {xs : List Int} (h : OwnI e b' w u xs) (hb : base ≤ b') (hr : ∀ k, row = some k → k < b') (g : Gr w w') : Held base row w' u xs :=
  ⟨h.ints.gr g, fun _ k hk => by
    have := (h.lt hk).1
    refine ⟨by omega, fun e => ?_⟩
    have := hr k e.symm
    omega⟩

/-! ### rows of transitions -/
def cells3 (rows : List (TranD × Value × Value)) : List Value := rows.flatMap fun r => [.int .i64 r.1.label, r.2.1, r.2.2]
theorem cells3_len (rows : List (TranD × Value × Value)) : (cells3 rows).length = rows.length * 3 := by
  induction rows with
  | nil => rfl
  | cons r l ih => simp only [cells3, List.flatMap_cons, List.length_append, List.length_cons, List.length_nil] at *; omega
theorem cells3_at {rows : List (TranD × Value × Value)} {i : Nat} (h : i < rows.length) : (cells3 rows)[i * 3]? = some (.int .i64 rows[i].1.label) ∧ (cells3 rows)[i * 3 + 1]? = some rows[i].2.1 ∧ (cells3 rows)[i * 3 + 2]? = some rows[i].2.2 := by
  induction rows generalizing i with
  | nil => simp at h
  | cons r l ih =>
    cases i with
    | zero => simp [cells3]
    | succ i =>
      have := ih (i := i) (by simpa using h)
      have e : (i + 1) * 3 = i * 3 + 3 := by omega
      simp only [cells3, List.flatMap_cons] at *
      rw [e]
      refine ⟨?_, ?_, ?_⟩
      · rw [List.getElem?_append_right (by simp)]; simpa using this.1
      · rw [List.getElem?_append_right (by simp)]; simpa using this.2.1
      · rw [List.getElem?_append_right (by simp)]; simpa using this.2.2
theorem cells3_snoc (rows : List (TranD × Value × Value)) (t : TranD) (p q : Value) : cells3 (rows ++ [(t, p, q)]) = cells3 rows ++ [.int .i64 t.label, p, q] := by simp [cells3]

structure TranTy (P : Program) (t e : TypeId) : Prop where
  und : P.underlying t = some (.slice e)
  info : (P.info? e).map (fun i => (i.zero, i.size, i.bytes)) = some (some (.agg #[.int .i64 0, .slice none 0 0, .slice none 0 0]), 3, 56)

def OwnT (e base : Nat) (w : World) (v : Value) (ts : List TranD) : Prop :=
  ∃ rows : List (TranD × Value × Value), rows.map (·.1) = ts ∧ w.ownsRow base e 3 v rows.length (cells3 rows) ∧ ∀ r ∈ rows, I64 r.1.label ∧ Held base v.ownBlock w r.2.1 r.1.pre ∧ Held base v.ownBlock w r.2.2 r.1.post
theorem OwnT.nil (e base : Nat) (w : World) : OwnT e base w (.slice none 0 0) [] := ⟨[], rfl, World.ownsRow_nil w base e 3, fun r hr => by simp at hr⟩
theorem OwnT.gr {e base : Nat} {w w' : World} {v : Value} {ts : List TranD} (h : OwnT e base w v ts) (g : Gr w w') : OwnT e base w' v ts := by
  obtain ⟨rows, h1, h2, h3⟩ := h
  exact ⟨rows, h1, ownsRow_below h2 g.below, fun r hr => ⟨(h3 r hr).1, (h3 r hr).2.1.gr g, (h3 r hr).2.2.gr g⟩⟩
theorem OwnT.other {e base : Nat} {w : World} {v : Value} {ts : List TranD} (h : OwnT e base w v ts) {a : Addr} (ha : a.block < base) (x : Value) : OwnT e base (w.setCell a x) v ts := by
  obtain ⟨rows, h1, h2, h3⟩ := h
  exact ⟨rows, h1, ownsRow_setCell_below h2 ha x, fun r hr => ⟨(h3 r hr).1, (h3 r hr).2.1.other ha x, (h3 r hr).2.2.other ha x⟩⟩
theorem OwnT.lt {e base : Nat} {w : World} {v : Value} {ts : List TranD} (h : OwnT e base w v ts) : ∀ k, v.ownBlock = some k → base ≤ k ∧ k < w.heap.size := by
  obtain ⟨rows, h1, h2, h3⟩ := h
  exact h2.lt
theorem OwnT.form {e base : Nat} {w : World} {v : Value} {ts : List TranD} (h : OwnT e base w v ts) : ∃ a cap, v = .slice a ts.length cap := by
  obtain ⟨rows, h1, h2, h3⟩ := h
  subst h1
  rcases h2.2 with ⟨h4, h5⟩ | ⟨g, cap, cur, h4, _⟩
  · exact ⟨none, 0, by rw [List.length_map, h5]; exact h4⟩
  · exact ⟨some ⟨g, 0, none⟩, cap, by rw [List.length_map]; exact h4⟩
theorem OwnT.trans {e base : Nat} {w : World} {v : Value} {ts : List TranD} (h : OwnT e base w v ts) : TransR w v ts := by
  obtain ⟨rows, rfl, h2, h3⟩ := h
  rcases h2.2 with ⟨h4, h5⟩ | ⟨g, cap, cur, h4, _, hblk, hn, hcap, hsz, htake⟩
  · obtain rfl := List.eq_nil_of_length_eq_zero h5
    rw [h4]; exact TransR.nil w
  · refine TransR.intro (a := some ⟨g, 0, none⟩) (cap := cap) (by rw [List.length_map]; exact h4) (by rw [List.length_map]; exact hn) hcap fun i hi => ?_
    rw [List.length_map] at hi
    have hr := h3 rows[i] (List.getElem_mem hi)
    have hd : (rows.map (·.1)).getD i default = rows[i].1 := by simp [hi]
    rw [hd]
    have hc := cells3_at hi
    have hcell : ∀ j, j < 3 → ∀ u, (cells3 rows)[i * 3 + j]? = some u → w.cell? ⟨g, 0 + i * 3 + j, none⟩ = some u := by
      intro j hj u hu
      have h6 := h2
      rw [h4] at h6
      rw [Nat.zero_add, h6.cellAt (i * 3 + j) (by omega)]
      exact hu
    exact ⟨g, 0, rows[i].2.1, rows[i].2.2, rfl, hcell 0 (by omega) _ hc.1, hcell 1 (by omega) _ hc.2.1, hcell 2 (by omega) _ hc.2.2, hr.1, hr.2.1.1, hr.2.2.1⟩

/-- 'append(out, Tran{..})' at a step of a region that draws its order -/
theorem step_app_tran {P : Program} {t e : TypeId} (T : TranTy P t e) {w : World} {ops : Array Oper} {o : Oper} {a : Act} {K : Act → World → Prop} {Q : Exit → Act → World → Prop} {E : Prop} (hgd : o.guard = none) (s x : Operand)
    (ho : o.op = .call { callee := .builtin .append, args := #[s, x], argTypes := #[t, t] }) (base : Nat) (v : Value) (ts : List TranD) (tr : TranD) (p q : Value) (ad : Addr) (hs : a.eval s = v) (hx : a.eval x = .slice (some ad) 1 1)
    (hown : OwnT e base w v ts) (hl : I64 tr.label) (hp : Held base v.ownBlock w p tr.pre) (hq : Held base v.ownBlock w q tr.post) (hnews : ∀ j u, [Value.int .i64 tr.label, p, q][j]? = some u → w.cell? (ad.add j) = some u) (h1 : p.oneCell' = true) (h2 : q.oneCell' = true)
    (hb : (ts.length + 1) * 56 ≤ 140737488355328) (hbase : base ≤ w.heap.size)
    (hK : ∀ g cap w', OwnT e base w' (.slice (some ⟨g, 0, none⟩) (ts.length + 1) cap) (ts ++ [tr]) → w.grownBy w' v.ownBlock → (v.ownBlock = some g ∨ w.heap.size = g) → g < w'.heap.size → K (a.put o.dst (.slice (some ⟨g, 0, none⟩) (ts.length + 1) cap)) w') :
    if Region.wanted o (yielded ops a.tmps) = true then Oper.wp P o a w K Q else E := by
  obtain ⟨i, hi, hz, hsz, hby⟩ := info_parts T.info
  obtain ⟨rows, rfl, hr, hall⟩ := hown
  rw [List.length_map] at hb hK
  have hone : ∀ u ∈ [Value.int .i64 tr.label, p, q], u.oneCell' = true := by
    intro u hu
    rcases List.mem_cons.1 hu with rfl | hu
    · rfl
    · rcases List.mem_cons.1 hu with rfl | hu
      · exact h1
      · rw [List.mem_singleton.1 hu]; exact h2
  refine step_append_lies w hgd s x t ho base e i _ 3 56 T.und hi hz hsz hby rfl (by omega) v rows.length (cells3 rows) hs hr ad 1 1 [.int .i64 tr.label, p, q] hx rfl hnews hone (by omega) (by unfold maxLen; omega) hb hbase w.heap.size rfl ?_
  intro g cap w' hown' hgr hat hlt
  refine hK g cap w' ⟨rows ++ [(tr, p, q)], by simp, ?_, ?_⟩ hgr (hat.imp id Eq.symm) hlt
  · rw [cells3_snoc, List.length_append]
    exact hown'
  · have hat' : v.ownBlock = some g ∨ w.heap.size ≤ g := hat.imp id (fun h => by omega)
    intro r hr'
    rcases List.mem_append.1 hr' with h5 | h5
    · obtain ⟨a1, a2, a3⟩ := hall r h5
      exact ⟨a1, a2.grown hgr rfl hat', a3.grown hgr rfl hat'⟩
    · rw [List.mem_singleton.1 h5]
      exact ⟨hl, hp.grown hgr rfl hat', hq.grown hgr rfl hat'⟩

/-! ### the net that is turned -/
def turnT (t : TranD) : TranD := ⟨t.label, t.post, t.pre⟩
def turnN (N : NetD) : NetD := ⟨N.places, N.trans.map turnT⟩
def turnUpto (N : NetD) (k : Nat) : List TranD := (N.trans.take k).map turnT
theorem turnUpto_zero (N : NetD) : turnUpto N 0 = [] := by simp [turnUpto]
theorem turnUpto_succ {N : NetD} {k : Nat} (h : k < N.trans.length) : turnUpto N (k + 1) = turnUpto N k ++ [turnT (N.tr k)] := by
  unfold turnUpto NetD.tr
  rw [List.take_succ_eq_append_getElem h, List.map_append]
  simp [h]
theorem turnUpto_succ' {N : NetD} {k : Nat} (h : k < N.trans.length) : turnUpto N (k + 1) = turnUpto N k ++ [⟨(N.tr k).label, (N.tr k).post, (N.tr k).pre⟩] := turnUpto_succ h
theorem turnUpto_all (N : NetD) : turnUpto N N.trans.length = (turnN N).trans := by simp [turnUpto, turnN]
theorem turnUpto_len {N : NetD} {k : Nat} (h : k ≤ N.trans.length) : (turnUpto N k).length = k := by
  simp [turnUpto]; omega
theorem turnN_places (N : NetD) : (turnN N).places = N.places := rfl
theorem turnT_label (t : TranD) : (turnT t).label = t.label := rfl
theorem turnT_pre (t : TranD) : (turnT t).pre = t.post := rfl
theorem turnT_post (t : TranD) : (turnT t).post = t.pre := rfl
theorem turnN_len (N : NetD) : (turnN N).trans.length = N.trans.length := by simp [turnN]
theorem turnN_tr (N : NetD) {k : Nat} (h : k < N.trans.length) : (turnN N).tr k = turnT (N.tr k) := by
  simp [NetD.tr, turnN, h]
theorem tranOk_turn {p : Int} {t : TranD} (h : tranOkB p t = true) : tranOkB p (turnT t) = true := by
  unfold tranOkB at *
  rw [turnT_label, turnT_pre, turnT_post]
  simp only [Bool.and_eq_true] at *
  obtain ⟨⟨⟨⟨⟨h1, h2⟩, h3⟩, h4⟩, h5⟩, h6⟩ := h
  exact ⟨⟨⟨⟨⟨h1, h2⟩, h4⟩, h3⟩, h6⟩, h5⟩
theorem netOk_turn {N : NetD} (h : netOkB N = true) : netOkB (turnN N) = true := by
  unfold netOkB at *
  simp only [Bool.and_eq_true, List.all_eq_true, decide_eq_true_eq] at *
  obtain ⟨⟨⟨h1, h2⟩, h3⟩, h4⟩ := h
  refine ⟨⟨⟨h1, h2⟩, by simpa [turnN] using h3⟩, fun t ht => ?_⟩
  obtain ⟨s, hs, rfl⟩ := List.mem_map.1 (show t ∈ N.trans.map turnT from ht)
  exact tranOk_turn (h4 s hs)
attribute [irreducible] Held OwnT turnUpto turnN turnT Blk
end Go.Tok

/- Plain laws: a run of the turned net along the sequence turned about leads back. No program is in sight here. -/
namespace Go.Tok
set_option linter.unusedVariables false

theorem fits_turn {N : NetD} {x : List Int} (h : fitsB N x = true) : fitsB (turnN N) x = true :=
  fits_mk (netOk_turn (fits_ok h)) (by rw [turnN_places]; exact fits_len h) (fits_sizes h).2.2.2.2.2.1
theorem fires_turn {N : NetD} {x y : List Int} {k : Nat} (hx : fitsB N x = true) (h : Fires N x k y) : Fires (turnN N) y k x := by
  have ht := turnN_tr N h.lt
  have F := netOk_tr (fits_ok hx) h.lt
  refine ⟨by rw [turnN_len]; exact h.lt, h.len.symm, fun p => ?_, fun p => ?_, fun p => (fits_nth hx p).2⟩
  · rw [ht, turnT_pre, h.eq p]; have := h.pre p; omega
  · rw [ht, turnT_pre, turnT_post, h.eq p]; omega
theorem Runs.snoc {N : NetD} {x s y : List Int} (h : Runs N x s y) : ∀ {z : List Int} {k : Nat}, Fires N y k z → Runs N x (s ++ [(k : Int)]) z := by
  induction h with
  | nil x => exact fun hF => .cons hF (.nil _)
  | cons h _ ih => exact fun hF => .cons h (ih hF)
theorem runs_turn {N : NetD} {x s z : List Int} (h : Runs N x s z) : fitsB N x = true → Runs (turnN N) z s.reverse x := by
  induction h with
  | nil x => exact fun _ => .nil _
  | cons h _ ih =>
    intro hx
    rw [List.reverse_cons]
    exact (ih (h.fits hx)).snoc (fires_turn hx h)
theorem net_back {N : NetD} {m s x : List Int} (h : runF N m s = (x, 0)) : runF (turnN N) x s.reverse = (m, 0) := by
  obtain ⟨hf, hr⟩ := runF_of h
  exact (runs_turn hr hf).runF (fits_turn (hr.fits hf))

/-! ### a row turned about -/
def revVal (xs : List Int) (k p : Nat) : Int := if p < k ∨ xs.length ≤ p + k then nth xs (xs.length - 1 - p) else nth xs p
def revUpto (xs : List Int) (k : Nat) : List Int := (List.range xs.length).map (revVal xs k)
theorem revUpto_len (xs : List Int) (k : Nat) : (revUpto xs k).length = xs.length := by simp [revUpto]
theorem revUpto_nth (xs : List Int) {k p : Nat} (h : p < xs.length) : nth (revUpto xs k) p = revVal xs k p := by
  rw [nth_lt (by rw [revUpto_len]; exact h)]; simp [revUpto]
theorem revUpto_zero (xs : List Int) : revUpto xs 0 = xs := by
  refine ext_nth (revUpto_len _ _) fun p hp => ?_
  rw [revUpto_len] at hp
  rw [revUpto_nth xs hp]
  unfold revVal
  rw [if_neg (by omega)]
theorem nth_set (xs : List Int) (i : Nat) (x : Int) {p : Nat} (h : p < xs.length) : nth (xs.set i x) p = if i = p then x else nth xs p := by
  rw [nth_lt (by simpa using h), nth_lt h, List.getElem_set]
theorem revUpto_left (xs : List Int) {k : Nat} (h : 2 * k + 1 < xs.length) : nth (revUpto xs k) k = nth xs k := by
  rw [revUpto_nth xs (by omega)]; unfold revVal; rw [if_neg (by omega)]
theorem revUpto_right (xs : List Int) {k : Nat} (h : 2 * k + 1 < xs.length) : nth (revUpto xs k) (xs.length - 1 - k) = nth xs (xs.length - 1 - k) := by
  rw [revUpto_nth xs (by omega)]; unfold revVal; rw [if_neg (by omega)]
theorem revUpto_succ (xs : List Int) {k : Nat} (h : 2 * k + 1 < xs.length) : ((revUpto xs k).set k (nth xs (xs.length - 1 - k))).set (xs.length - 1 - k) (nth xs k) = revUpto xs (k + 1) := by
  refine ext_nth (by simp [revUpto_len]) fun p hp => ?_
  simp only [List.length_set, revUpto_len] at hp
  rw [nth_set _ _ _ (by simpa [revUpto_len] using hp), nth_set _ _ _ (by simpa [revUpto_len] using hp), revUpto_nth xs hp, revUpto_nth xs hp]
  unfold revVal
  by_cases h1 : xs.length - 1 - k = p
  · rw [if_pos h1, if_pos (by omega)]
    congr 1; omega
  · rw [if_neg h1]
    by_cases h2 : k = p
    · rw [if_pos h2, if_pos (by omega), h2]
    · rw [if_neg h2]
      by_cases h3 : p < k ∨ xs.length ≤ p + k
      · rw [if_pos h3, if_pos (by omega)]
      · rw [if_neg h3, if_neg (by omega)]
theorem revUpto_all (xs : List Int) {k : Nat} (h : xs.length ≤ 2 * k + 1) : revUpto xs k = xs.reverse := by
  refine ext_nth (by simp [revUpto_len]) fun p hp => ?_
  rw [revUpto_len] at hp
  rw [revUpto_nth xs hp, nth_lt (by simpa using hp), List.getElem_reverse]
  unfold revVal
  by_cases h1 : p < k ∨ xs.length ≤ p + k
  · rw [if_pos h1, nth_lt (by omega)]
  · rw [if_neg h1, nth_lt hp]
    congr 1; omega
attribute [irreducible] revUpto
end Go.Tok

/- Rows of transitions as rows of a kind (Gen): how they read, what they hang on; the cells of a row. No program is in sight here. -/
namespace Go.Tok
open Go.RowKit
set_option linter.unusedVariables false

def trK : Kind TranD :=
  ⟨3, fun w vs t => ∃ p q, vs = [.int .i64 t.label, p, q] ∧ I64 t.label ∧ Ints w p t.pre ∧ Ints w q t.post,
    fun ⟨p, q, h, _⟩ => by rw [h]; rfl,
    fun ⟨p, q, h, _, hp, hq⟩ => by
      subst h
      obtain ⟨a, c, rfl, _⟩ := hp.len
      obtain ⟨a', c', rfl, _⟩ := hq.len
      intro x hx
      rcases List.mem_cons.1 hx with rfl | hx
      · rfl
      · rcases List.mem_cons.1 hx with rfl | hx
        · rfl
        · rw [List.mem_singleton.1 hx]; rfl,
    fun k ⟨p, q, h, hl, hp, hq⟩ => ⟨p, q, h, hl, hp.kp k, hq.kp k⟩⟩

theorem trans_of_rd {w : World} {v : Value} {ts : List TranD} (h : Rd trK w v ts) : TransR w v ts := by
  obtain ⟨a, cap, rfl, h1, h2⟩ := h.len
  refine TransR.intro rfl h1 (by unfold maxLen; omega) fun i hi => ?_
  obtain ⟨b, o, vs, rfl, ⟨p, q, rfl, hl, hp, hq⟩, hc⟩ := h.at_ hi
  rw [ix_def] at hl hp hq hc
  refine ⟨b, o, p, q, rfl, ?_, ?_, ?_, hl, hp, hq⟩
  · exact hc 0 _ rfl
  · exact hc 1 _ rfl
  · exact hc 2 _ rfl
theorem rd_of_trans {w : World} {ad : Addr} {n cap : Nat} {ts : List TranD} (h : TransR w (.slice (some ad) n cap) ts) : Rd trK w (.slice (some ad) n cap) ts := by
  unfold TransR at h
  obtain ⟨a, cap', h1, h2, h3, h4⟩ := h
  cases h1
  refine rd_mk rfl h2 h3 (by simp) fun i hi => ?_
  obtain ⟨b, o, p, q, ha, c0, c1, c2, hl, hp, hq⟩ := h4 i hi
  refine ⟨b, o, [.int .i64 (ix ts i).label, p, q], ha, ⟨p, q, rfl, by rw [ix_def]; exact hl, by rw [ix_def]; exact hp, by rw [ix_def]; exact hq⟩, fun j u hj => ?_⟩
  rw [ix_def] at hj
  match j, hj with
  | 0, hj => cases hj; exact c0
  | 1, hj => cases hj; exact c1
  | 2, hj => cases hj; exact c2
theorem trans_none {w : World} {n cap : Nat} {ts : List TranD} (h : TransR w (.slice none n cap) ts) : ts = [] ∧ n = 0 := by
  unfold TransR at h
  obtain ⟨a, cap', h1, h2, h3, h4⟩ := h
  cases h1
  rcases Nat.eq_zero_or_pos ts.length with h5 | h5
  · exact ⟨List.eq_nil_of_length_eq_zero h5, h5⟩
  · obtain ⟨b, o, p, q, ha, _⟩ := h4 0 h5
    cases ha
/-- the cells of a row that reads -/
theorem Rd.cells {α : Type} [Inhabited α] {K : Kind α} {w : World} {ad : Addr} {n c : Nat} {ys : List α} (h : Rd K w (.slice (some ad) n c) ys) (hp : 0 < K.size) :
    ∃ vss : List (List Value), vss.length = ys.length ∧ (∀ i, i < ys.length → K.R w (vss.getD i []) (ix ys i)) ∧ ∀ j x, vss.flatten[j]? = some x → w.cell? (ad.add j) = some x := by
  have hf : ∀ i : Fin ys.length, ∃ vs, K.R w vs (ix ys i) ∧ ∀ j u, vs[j]? = some u → w.cell? (ad.add (i * K.size + j)) = some u := by
    intro i
    obtain ⟨b, o, vs, ha, hr, hc⟩ := h.at_ i.2
    cases ha
    refine ⟨vs, hr, fun j u hj => ?_⟩
    rw [add_none, ← Nat.add_assoc]
    exact hc j u hj
  have hch : ∃ f : Fin ys.length → List Value, ∀ i : Fin ys.length, K.R w (f i) (ix ys i) ∧ ∀ j u, (f i)[j]? = some u → w.cell? (ad.add (i * K.size + j)) = some u := ⟨fun i => (hf i).choose, fun i => (hf i).choose_spec⟩
  obtain ⟨f, hf⟩ := hch
  refine ⟨List.ofFn f, by simp, fun i hi => ?_, fun j x hj => ?_⟩
  · have := (hf ⟨i, hi⟩).1
    simpa [List.getD, hi] using this
  · have hlen : ∀ r ∈ (List.ofFn f).map (fun vs => ((), vs)), r.2.length = K.size := by
      intro r hr
      obtain ⟨vs, hvs, rfl⟩ := List.mem_map.1 hr
      obtain ⟨i, rfl⟩ := List.mem_ofFn.1 hvs
      exact K.len (hf i).1
    have e : (List.ofFn f).flatten = cellsOf ((List.ofFn f).map fun vs => ((), vs)) := by
      unfold cellsOf
      rw [List.flatMap_map, List.flatMap_id']
    have hfl : (List.ofFn f).flatten.length = ys.length * K.size := by
      have : ∀ l : List (List Value), (∀ vs ∈ l, vs.length = K.size) → l.flatten.length = l.length * K.size := by
        intro l
        induction l with
        | nil => simp
        | cons a r ih => intro h; rw [List.flatten_cons, List.length_append, ih (fun vs hv => h vs (by simp [hv])), h a (by simp), List.length_cons, Nat.add_mul]; omega
      rw [this _ (fun vs hvs => by obtain ⟨i, rfl⟩ := List.mem_ofFn.1 hvs; exact K.len (hf i).1)]
      simp
    have hjl : j < ys.length * K.size := by rw [← hfl]; exact (List.getElem?_eq_some_iff.1 hj).1
    have hi : j / K.size < ys.length := Nat.div_lt_of_lt_mul (by rw [Nat.mul_comm]; exact hjl)
    have hq : j % K.size < K.size := Nat.mod_lt _ hp
    have hjd : j / K.size * K.size + j % K.size = j := by rw [Nat.mul_comm]; exact Nat.div_add_mod j K.size
    rw [e, ← hjd, cellsOf_at hlen (by simpa using hi) hq] at hj
    have hj' : (f ⟨j / K.size, hi⟩)[j % K.size]? = some x := by simpa [hi] using hj
    have := (hf ⟨j / K.size, hi⟩).2 _ _ hj'
    rw [← hjd]
    exact this
end Go.Tok

/- The first element that meets a predicate. No program is in sight here. -/
namespace Go.Tok
open Go.RowKit
set_option linter.unusedVariables false

section
variable {α : Type}
/-- the first place at which p holds, or -1 -/
def firstI (p : α → Bool) : List α → Int
  | [] => -1
  | x :: r => if p x then 0 else if firstI p r = -1 then -1 else firstI p r + 1
def NoneI [Inhabited α] (p : α → Bool) (xs : List α) (k : Nat) : Prop := ∀ i, i < k → p (ix xs i) = false
theorem NoneI.intro [Inhabited α] {p : α → Bool} {xs : List α} {k : Nat} (h : ∀ i, i < k → p (ix xs i) = false) : NoneI p xs k := h
theorem NoneI.zero [Inhabited α] (p : α → Bool) (xs : List α) : NoneI p xs 0 := fun i hi => by omega
theorem NoneI.succ [Inhabited α] {p : α → Bool} {xs : List α} {k : Nat} (h : NoneI p xs k) (hk : p (ix xs k) = false) : NoneI p xs (k + 1) := fun i hi => by
  rcases Nat.lt_or_ge i k with h1 | h1
  · exact h i h1
  · obtain rfl : i = k := by omega
    exact hk
theorem NoneI.all [Inhabited α] {p : α → Bool} {xs : List α} (h : NoneI p xs xs.length) : xs.any p = false := by
  rw [List.any_eq_false]
  intro x hx
  obtain ⟨i, hi, rfl⟩ := List.getElem_of_mem hx
  have := h i hi
  rw [ix_lt hi] at this
  simp [this]
theorem firstI_ge (p : α → Bool) (xs : List α) : -1 ≤ firstI p xs := by
  induction xs with
  | nil => simp [firstI]
  | cons x r ih => simp only [firstI]; split <;> (try split) <;> omega
theorem firstI_hit [Inhabited α] {p : α → Bool} {xs : List α} {k : Nat} (h : NoneI p xs k) (hk : k < xs.length) (hp : p (ix xs k) = true) : firstI p xs = k := by
  induction xs generalizing k with
  | nil => simp at hk
  | cons x r ih =>
    cases k with
    | zero => rw [ix_zero] at hp; simp [firstI, hp]
    | succ k =>
      have h0 : p x = false := by have := h 0 (by omega); rwa [ix_zero] at this
      have hr := ih (k := k) (fun i hi => by have := h (i + 1) (by omega); rwa [ix_succ] at this) (by simpa using hk) (by rwa [ix_succ] at hp)
      simp only [firstI]
      rw [if_neg (by simp [h0]), hr, if_neg (by omega)]
      simp
theorem firstI_miss [Inhabited α] {p : α → Bool} {xs : List α} (h : NoneI p xs xs.length) : firstI p xs = -1 := by
  induction xs with
  | nil => rfl
  | cons x r ih =>
    have h0 : p x = false := by have := h 0 (by simp); rwa [ix_zero] at this
    have hr := ih (fun i hi => by have := h (i + 1) (by simp; omega); rwa [ix_succ] at this)
    simp [firstI, h0, hr]
theorem firstI_any (p : α → Bool) (xs : List α) : decide (0 ≤ firstI p xs) = xs.any p := by
  induction xs with
  | nil => simp [firstI]
  | cons x r ih =>
    have := firstI_ge p r
    simp only [firstI, List.any_cons]
    by_cases h : p x = true
    · simp [h]
    · simp only [h, Bool.false_or, ← ih]
      simp only [Bool.false_eq_true, if_false]
      split
      · rename_i h1; rw [h1]
      · rw [decide_eq_decide]; omega
theorem firstI_nil (p : α → Bool) : firstI p [] = -1 := by simp [firstI]
theorem firstI_lt (p : α → Bool) (xs : List α) : firstI p xs < xs.length ∨ xs = [] := by
  induction xs with
  | nil => exact .inr rfl
  | cons x r ih =>
    left
    simp only [firstI, List.length_cons]
    rcases ih with h | h
    · split <;> (try split) <;> omega
    · subst h; simp [firstI]; split <;> omega
/-- what is found -/
theorem firstI_some [Inhabited α] {p : α → Bool} {xs : List α} {k : Nat} (h : firstI p xs = k) : k < xs.length ∧ p (ix xs k) = true ∧ NoneI p xs k := by
  induction xs generalizing k with
  | nil => simp [firstI] at h
  | cons x r ih =>
    simp only [firstI] at h
    by_cases hx : p x = true
    · rw [if_pos hx] at h
      have : k = 0 := by omega
      subst this
      exact ⟨by simp, by rw [ix_zero]; exact hx, NoneI.zero _ _⟩
    · rw [if_neg hx] at h
      split at h
      · omega
      · have hg := firstI_ge p r
        obtain ⟨j, hj⟩ : ∃ j : Nat, firstI p r = j := ⟨(firstI p r).toNat, by omega⟩
        obtain ⟨h1, h2, h3⟩ := ih hj
        have : k = j + 1 := by omega
        subst this
        refine ⟨by simp; omega, by rw [ix_succ]; exact h2, fun i hi => ?_⟩
        cases i with
        | zero => rw [ix_zero]; simpa using hx
        | succ i => rw [ix_succ]; exact h3 i (by omega)
theorem firstI_none {p : α → Bool} {xs : List α} (h : firstI p xs = -1) : xs.any p = false := by
  rw [← firstI_any, h]; rfl
end
theorem TransR.at_ix {w : World} {a : Option Addr} {n cap : Nat} {ts : List TranD} (h : TransR w (.slice a n cap) ts) {i : Nat} (hi : i < ts.length) :
    ∃ b o vp vq, a = some ⟨b, o, none⟩ ∧ w.cell? ⟨b, o + i * 3, none⟩ = some (.int .i64 (ix ts i).label) ∧ w.cell? ⟨b, o + i * 3 + 1, none⟩ = some vp ∧ w.cell? ⟨b, o + i * 3 + 2, none⟩ = some vq ∧
      I64 (ix ts i).label ∧ Ints w vp (ix ts i).pre ∧ Ints w vq (ix ts i).post := by
  unfold TransR at h
  obtain ⟨a', cap', h1, h2, h3, h4⟩ := h
  cases h1
  rw [ix_def]
  exact h4 i hi
theorem TransR.len {w : World} {v : Value} {ts : List TranD} (h : TransR w v ts) : ∃ a cap, v = .slice a ts.length cap ∧ ts.length ≤ cap ∧ cap ≤ 9223372036854775807 := by
  unfold TransR at h
  obtain ⟨a, cap, h1, h2, h3, _⟩ := h
  exact ⟨a, cap, h1, h2, by unfold maxLen at h3; omega⟩
theorem tr_ix (N : NetD) (i : Nat) : N.tr i = ix N.trans i := by unfold NetD.tr ix; rfl
attribute [irreducible] firstI NoneI
end Go.Tok

/- Appends of one int within a region that draws its order. No program is in sight here. -/
namespace Go.Tok
open Go.RowKit
set_option linter.unusedVariables false

theorem same_quiet {P : Program} {f : Nat} {args : Array Value} {w : World} {r : Value} (h : Calls P f args w fun e w' => e = .returned r ∧ w = w') : Calls P f args w fun e w' => e = .returned r ∧ w' = w := h.mono fun _ _ h => ⟨h.1, h.2.symm⟩
theorem OwnI.low {e base base' : Nat} {w : World} {v : Value} {xs : List Int} (h : OwnI e base w v xs) (hb : base' ≤ base) : OwnI e base' w v xs := by
  unfold OwnI at *
  refine ⟨⟨h.1.1, ?_⟩, h.2⟩
  rcases h.1.2 with h4 | ⟨g, cap, cur, h4, h5, h6⟩
  · exact .inl h4
  · exact .inr ⟨g, cap, cur, h4, Nat.le_trans hb h5, h6⟩
theorem step_app_int {P : Program} {t e : TypeId} (T : IntTy P t e) {ops : Array Oper} {o : Oper} {a : Act} {w : World} {K : Act → World → Prop} {Q : Exit → Act → World → Prop} {E : Prop} (hgd : o.guard = none) (s x : Operand)
    (ho : o.op = .call { callee := .builtin .append, args := #[s, x], argTypes := #[t, t] }) (base : Nat) (v : Value) (xs : List Int) (ad : Addr) (y : Int) (hs : a.eval s = v) (hx : a.eval x = .slice (some ad) 1 1) (hown : OwnI e base w v xs)
    (hcell : w.cell? ad = some (.int .i64 y)) (hy : I64 y) (hn : xs.length + 1 ≤ 17592186044416) (hbase : base ≤ w.heap.size)
    (hK : ∀ g cap w', OwnI e base w' (.slice (some ⟨g, 0, none⟩) (xs.length + 1) cap) (xs ++ [y]) → (∀ a : World, a.heap.size ≤ base → Gr a w → Gr a w') → w.grownBy w' v.ownBlock → (v.ownBlock = some g ∨ g = w.heap.size) → g < w'.heap.size → K (a.put o.dst (.slice (some ⟨g, 0, none⟩) (xs.length + 1) cap)) w') :
    if Region.wanted o (yielded ops a.tmps) = true then Oper.wp P o a w K Q else E := by
  obtain ⟨i, hi, hz, hsz, hby⟩ := info_parts T.info
  have hown' := hown
  unfold OwnI at hown'
  refine step_append_lies w hgd s x t ho base e i _ 1 8 T.und hi hz hsz hby rfl (by omega) v xs.length _ hs hown'.1 ad 1 1 [.int .i64 y] hx rfl ?_ (by simp [Value.oneCell']) (by omega) (by unfold maxLen; omega) (by omega) hbase w.heap.size rfl ?_
  · intro j u hj
    cases j with
    | zero => simp at hj; subst hj; rw [show ad.add 0 = ad by unfold Addr.add; split <;> simp_all]; exact hcell
    | succ j => simp at hj
  · intro g cap w' ho' hgr hat hlt
    have hall : ∀ z ∈ xs ++ [y], I64 z := by
      intro z hz
      rcases List.mem_append.1 hz with h1 | h1
      · exact hown'.2 z h1
      · rw [List.mem_singleton.1 h1]; exact hy
    refine hK g cap w' (by unfold OwnI; refine ⟨by simpa using ho', ?_⟩; exact hall) ?_ hgr hat hlt
    · intro a hB hb
      exact hb.grown hgr fun k hk => Nat.le_trans hB (hown.lt hk).1
/-- 'append(out, x)', as an operation alone -/
theorem wp_app_int {P : Program} {t e : TypeId} (T : IntTy P t e) {w : World} {o : Oper} {a : Act} {K : Act → World → Prop} {Q : Exit → Act → World → Prop} (s x : Operand)
    (ho : o.op = .call { callee := .builtin .append, args := #[s, x], argTypes := #[t, t] }) (base : Nat) (v : Value) (xs : List Int) (ad : Addr) (y : Int) (hs : a.eval s = v) (hx : a.eval x = .slice (some ad) 1 1) (hown : OwnI e base w v xs)
    (hcell : w.cell? ad = some (.int .i64 y)) (hy : I64 y) (hn : xs.length + 1 ≤ 17592186044416) (hbase : base ≤ w.heap.size)
    (hK : ∀ g cap w', OwnI e base w' (.slice (some ⟨g, 0, none⟩) (xs.length + 1) cap) (xs ++ [y]) → (∀ a : World, a.heap.size ≤ base → Gr a w → Gr a w') → w.grownBy w' v.ownBlock → (v.ownBlock = some g ∨ g = w.heap.size) → g < w'.heap.size → K (a.put o.dst (.slice (some ⟨g, 0, none⟩) (xs.length + 1) cap)) w') : Oper.wp P o a w K Q := by
  have hown' := hown
  unfold OwnI at hown'
  obtain ⟨i, hi, hz, hsz, hby⟩ := info_parts T.info
  refine wp_append_lies w s x t ho base e i _ 1 8 T.und hi hz hsz hby rfl (by omega) v xs.length _ hs hown'.1 ad 1 1 [.int .i64 y] hx rfl ?_ (by simp [Value.oneCell']) (by omega) (by unfold maxLen; omega) (by omega) hbase w.heap.size rfl ?_
  · intro j u hj
    cases j with
    | zero => simp at hj; subst hj; rw [show ad.add 0 = ad by unfold Addr.add; split <;> simp_all]; exact hcell
    | succ j => simp at hj
  · intro g cap w' ho' hgr hat hlt
    have hall : ∀ z ∈ xs ++ [y], I64 z := by
      intro z hz
      rcases List.mem_append.1 hz with h1 | h1
      · exact hown'.2 z h1
      · rw [List.mem_singleton.1 h1]; exact hy
    refine hK g cap w' (by unfold OwnI; refine ⟨by simpa using ho', ?_⟩; exact hall) ?_ hgr hat hlt
    intro a hB hb
    exact hb.grown hgr fun k hk => Nat.le_trans hB (hown.lt hk).1
/-- 'append(out, x)' behind a guard that holds -/
theorem app_int_g {P : Program} {t e : TypeId} (T : IntTy P t e) {w : World} {ops : Array Oper} {rest : List Oper} {o : Oper} {a : Act} {Q : Exit → Act → World → Prop} (hw : Region.wanted o (yielded ops a.tmps) = true) (s x : Operand)
    (ho : o.op = .call { callee := .builtin .append, args := #[s, x], argTypes := #[t, t] }) (base : Nat) (v : Value) (xs : List Int) (ad : Addr) (y : Int) (hs : a.eval s = v) (hx : a.eval x = .slice (some ad) 1 1) (hown : OwnI e base w v xs)
    (hcell : w.cell? ad = some (.int .i64 y)) (hy : I64 y) (hn : xs.length + 1 ≤ 17592186044416) (hbase : base ≤ w.heap.size)
    (hK : ∀ g cap w', OwnI e base w' (.slice (some ⟨g, 0, none⟩) (xs.length + 1) cap) (xs ++ [y]) → (∀ a : World, a.heap.size ≤ base → Gr a w → Gr a w') → w.grownBy w' v.ownBlock → (v.ownBlock = some g ∨ g = w.heap.size) → g < w'.heap.size → wpList P ops Q rest (a.put o.dst (.slice (some ⟨g, 0, none⟩) (xs.length + 1) cap)) w') : wpList P ops Q (o :: rest) a w := by
  show if Region.wanted o (yielded ops a.tmps) then _ else _
  rw [if_pos hw]
  exact .inl (wp_app_int T s x ho base v xs ad y hs hx hown hcell hy hn hbase hK)
end Go.Tok

/- 'copy(out, w)' into a row of ints of the call's own. No program is in sight here. -/
namespace Go.Tok
open Go.RowKit
set_option linter.unusedVariables false
theorem copy_ints {P : Program} {t e : TypeId} (T : IntTy P t e) {w : World} {ops : Array Oper} {rest : List Oper} {o : Oper} {a : Act} {Q : Exit → Act → World → Prop} (hgd : o.guard = none) (d s : Operand)
    (ho : o.op = .call { callee := .builtin .copy, args := #[d, s], argTypes := #[t, t] }) (base g n cap : Nat) (xs ys : List Int) (u : Value) (hd : a.eval d = .slice (some ⟨g, 0, none⟩) n cap) (hs : a.eval s = u)
    (hown : OwnI e base w (.slice (some ⟨g, 0, none⟩) n cap) xs) (hsrc : Ints w u ys) (hle : ys.length ≤ xs.length)
    (hK : ∀ w', OwnI e base w' (.slice (some ⟨g, 0, none⟩) n cap) (ys ++ xs.drop ys.length) → (∀ a : World, a.heap.size ≤ base → Gr a w → Gr a w') → wpList P ops Q rest (a.put o.dst (goInt ys.length)) w') : wpList P ops Q (o :: rest) a w := by
  have hown' := hown
  unfold OwnI at hown'
  rcases hown'.1.2 with ⟨h1, _⟩ | ⟨g', cap', cur, h1, h2, h3, h4, h5, h6, h7⟩
  · cases h1
  obtain ⟨rfl, rfl, rfl⟩ : g = g' ∧ n = xs.length ∧ cap = cap' := by cases h1; exact ⟨rfl, rfl, rfl⟩
  obtain ⟨sp, sc, rfl, _, _⟩ := hsrc.len
  obtain ⟨i, hi, hz, hsz, hb⟩ := info_parts T.info
  have hcs : cur.toList.length = cap := by simpa using h6
  refine wpList_copy_splice hgd d s t t ho e T.und (by rw [hi]; simp [hsz]) _ _ _ _ _ _ hd hs g 0 cur.toList e (by simpa using h3) (ys.map (Value.int .i64)) (by simp [hle]) ?_ (by simp; omega) (ints_oneCell _ _) base w (Below.refl _ _) h2 ?_
  · intro hp
    refine ⟨rfl, ?_⟩
    rcases hsrc.form with ⟨_, h0⟩ | ⟨ad, cap2, h0, _, _⟩
    · subst h0; simp at hp
    · obtain rfl : sp = some ad := by cases h0; rfl
      refine ⟨ad, rfl, fun j v hj => ?_⟩
      rw [List.getElem?_map] at hj
      obtain ⟨y, hy, rfl⟩ := Option.map_eq_some_iff.1 hj
      have hjl : j < ys.length := (List.getElem?_eq_some_iff.1 hy).1
      rw [hsrc.adds hjl, nth_lt hjl]
      rw [List.getElem?_eq_getElem hjl] at hy
      cases hy; rfl
  · intro w' hg' hb'
    rw [List.length_map]
    have hxl : xs.length ≤ cap := h4
    refine hK w' ?_ ?_
    · unfold OwnI
      have hlen : (ys ++ xs.drop ys.length).length = xs.length := by simp; omega
      refine ⟨⟨by simp, .inr ⟨g, cap, _, by rw [hlen], h2, hg'.out, by rw [hlen]; exact hxl, h5, ?_, ?_⟩⟩, ?_⟩
      · rw [List.size_toArray, length_splice _ _ _ (by simp; omega)]; simpa using h6
      · simp only [splice, List.take_zero, List.nil_append, List.length_map, Nat.zero_add, Nat.mul_one, List.map_append, List.map_drop]
        rw [hlen, List.take_append, List.take_of_length_le (by simp; omega), List.length_map]
        congr 1
        have h7' : cur.toList.take xs.length = xs.map (Value.int .i64) := by simpa using h7
        rw [← h7', List.drop_take]
      · have hI : ∀ y ∈ ys, I64 y := by
          intro y hy
          obtain ⟨k, hk, rfl⟩ := List.getElem_of_mem hy
          have := hsrc.range k
          rw [nth_lt hk] at this
          exact this
        intro y hy
        rcases List.mem_append.1 hy with h | h
        · exact hI y h
        · exact hown'.2 y (List.mem_of_mem_drop h)
    · intro b hbl hg
      have hg2 : Below b.heap.size b w := hg.below
      have : Below b.heap.size b w' := hg2.trans (hb'.mono hbl)
      unfold Gr; exact this
end Go.Tok

/- A map known entry by entry, in the order in which its keys came: look-up, 'v, ok :=', a store at a new key, a store at a key that is there, '++'. No program is in sight here. -/
namespace Go.Tok
open Go.RowKit
open Go.MapKept (Stamped)
open Go.ChangeMaps (setBlock)

set_option linter.unusedVariables false

theorem OnlyAt.grown {a c : World} {b : Nat} (h : OnlyAt b a c) : a.grownBy c (some b) := ⟨h.1, h.2.1, h.2.2.1, Nat.le_of_eq h.2.2.2.1.symm, fun x hx hne => h.2.2.2.2 x (fun e => hne (by rw [e]))⟩
/-- block b is a map with just these entries -/
def MAt (P : Program) (k : TypeId) (w : World) (b : Nat) (kvs : List (Value × Value)) : Prop :=
  ∃ es clock, w.heap[b]? = some (.map es clock) ∧ Stamped es clock ∧ es.toList.map (fun e => (e.key, e.val)) = kvs ∧ ∀ x ∈ kvs, ∃ l, keyOf P k x.1 = some l

section
variable {P : Program} {k t e : TypeId} {w : World} {b : Nat} {kvs : List (Value × Value)}
theorem MAt.new (w : World) : MAt P k (w.alloc (.map #[] 0)) w.heap.size [] := ⟨#[], 0, heap_alloc_new w _, MapKept.stamped_empty 0, rfl, by simp⟩
theorem MAt.lt (h : MAt P k w b kvs) : b < w.heap.size := by
  obtain ⟨es, clock, hb, _⟩ := h
  exact (Array.getElem?_eq_some_iff.1 hb).1
theorem MAt.block {w' : World} (h : MAt P k w b kvs) (hb : w'.heap[b]? = w.heap[b]?) : MAt P k w' b kvs := by
  obtain ⟨es, clock, h1, h2⟩ := h
  exact ⟨es, clock, hb.trans h1, h2⟩
theorem MAt.gr {w' : World} (h : MAt P k w b kvs) (g : Gr w w') : MAt P k w' b kvs := h.block (g.below.block b h.lt)
theorem MAt.grown {w' : World} {row : Option Nat} (h : MAt P k w b kvs) (g : w.grownBy w' row) (hne : some b ≠ row) : MAt P k w' b kvs := h.block (g.block b h.lt hne)
theorem MAt.set {a : Addr} (h : MAt P k w b kvs) (hne : b ≠ a.block) (u : Value) : MAt P k (w.setCell a u) b kvs := h.block (Below.heap_setCell w a u b hne)
theorem MAt.nodup (h : MAt P k w b kvs) : (kvs.map (·.1)).Nodup := by
  obtain ⟨es, clock, _, h2, h3, _⟩ := h
  rw [← h3, List.map_map]; exact h2.2.2
theorem MAt.keys (h : MAt P k w b kvs) : ∀ x ∈ kvs, ∃ l, keyOf P k x.1 = some l := by
  obtain ⟨_, _, _, _, _, h⟩ := h
  exact h
theorem nodup_vals {l : List (Value × Value)} (h : (l.map (·.1)).Nodup) {x v v' : Value} (h1 : (x, v) ∈ l) (h2 : (x, v') ∈ l) : v = v' := by
  induction l with
  | nil => simp at h1
  | cons y r ih =>
    rw [List.map_cons, List.nodup_cons] at h
    rcases List.mem_cons.1 h1 with h3 | h3 <;> rcases List.mem_cons.1 h2 with h4 | h4
    · rw [← h3] at h4; exact (Prod.mk.inj h4).2.symm
    · exact absurd (List.mem_map.2 ⟨_, h4, by rw [← h3]⟩) h.1
    · exact absurd (List.mem_map.2 ⟨_, h3, by rw [← h4]⟩) h.1
    · exact ih h.2 h3 h4
theorem MAt.find (K : Go.Maps.Keyed P k) {es : Array MapEntry} {clock : Nat} (hs : Stamped es clock) (he : es.toList.map (fun e => (e.key, e.val)) = kvs) (hks : ∀ x ∈ kvs, ∃ l, keyOf P k x.1 = some l) {key : Value} {l : Lit} (hk : keyOf P k key = some l) :
    ((Instr.findKey k key es.toList).run P w = .ok none w ∧ ∀ x ∈ kvs, x.1 ≠ key) ∨ ∃ j v, (Instr.findKey k key es.toList).run P w = .ok (some (j, v)) w ∧ (key, v) ∈ kvs ∧ ∃ e0, es[j]? = some e0 ∧ e0.key = key ∧ e0.val = v := by
  rcases K.find w hk es.toList (fun x hx => hks (x.key, x.val) (by rw [← he]; exact List.mem_map.2 ⟨x, hx, rfl⟩)) with ⟨h1, h2⟩ | ⟨j, e0, h1, h2, h3⟩
  · refine .inl ⟨h1, fun x hx => ?_⟩
    rw [← he] at hx
    obtain ⟨y, hy, rfl⟩ := List.mem_map.1 hx
    exact h2 y hy
  · refine .inr ⟨j, e0.val, h1, ?_, e0, by rw [← Array.getElem?_toList]; exact h2, h3, rfl⟩
    rw [← he]; exact List.mem_map.2 ⟨e0, List.mem_of_getElem? h2, by rw [h3]⟩
section
variable {z : Value}
theorem MAt.look_no (K : Go.Maps.Keyed P k) (ht : P.underlying t = some (.map k e)) (hz : ∀ u : World, (zeroValue e).run P u = .ok z u) (h : MAt P k w b kvs) {key : Value} {l : Lit} (hk : keyOf P k key = some l) (hn : ∀ x ∈ kvs, x.1 ≠ key) :
    (Instr.lookup t (.map (some b)) key false).run P w = .ok z w := by
  obtain ⟨es, clock, hb, hs, he, hks⟩ := h
  rcases MAt.find (w := w) K hs he hks hk with ⟨h1, _⟩ | ⟨j, v, _, h2, _⟩
  · simp [Instr.lookup, run_underlying ht, MapKept.run_getObj_map hb, K.check w _ hk, h1, hz, Result.andThen]
  · exact absurd rfl (hn _ h2)
theorem MAt.look_no_ok (K : Go.Maps.Keyed P k) (ht : P.underlying t = some (.map k e)) (hz : ∀ u : World, (zeroValue e).run P u = .ok z u) (h : MAt P k w b kvs) {key : Value} {l : Lit} (hk : keyOf P k key = some l) (hn : ∀ x ∈ kvs, x.1 ≠ key) :
    (Instr.lookup t (.map (some b)) key true).run P w = .ok (.tuple #[z, .bool false]) w := by
  obtain ⟨es, clock, hb, hs, he, hks⟩ := h
  rcases MAt.find (w := w) K hs he hks hk with ⟨h1, _⟩ | ⟨j, v, _, h2, _⟩
  · simp [Instr.lookup, run_underlying ht, MapKept.run_getObj_map hb, K.check w _ hk, h1, hz, Result.andThen]
  · exact absurd rfl (hn _ h2)
end
theorem MAt.look_yes (K : Go.Maps.Keyed P k) (ht : P.underlying t = some (.map k e)) (h : MAt P k w b kvs) {key v : Value} {l : Lit} (hk : keyOf P k key = some l) (hm : (key, v) ∈ kvs) :
    (Instr.lookup t (.map (some b)) key false).run P w = .ok v w := by
  have hnd := h.nodup
  obtain ⟨es, clock, hb, hs, he, hks⟩ := h
  rcases MAt.find (w := w) K hs he hks hk with ⟨_, h1⟩ | ⟨j, v', h1, h2, _⟩
  · exact absurd rfl (h1 _ hm)
  · have := nodup_vals hnd hm h2
    subst this
    simp [Instr.lookup, run_underlying ht, MapKept.run_getObj_map hb, K.check w _ hk, h1, Result.andThen]
theorem MAt.look_yes_ok (K : Go.Maps.Keyed P k) (ht : P.underlying t = some (.map k e)) (h : MAt P k w b kvs) {key v : Value} {l : Lit} (hk : keyOf P k key = some l) (hm : (key, v) ∈ kvs) :
    (Instr.lookup t (.map (some b)) key true).run P w = .ok (.tuple #[v, .bool true]) w := by
  have hnd := h.nodup
  obtain ⟨es, clock, hb, hs, he, hks⟩ := h
  rcases MAt.find (w := w) K hs he hks hk with ⟨_, h1⟩ | ⟨j, v', h1, h2, _⟩
  · exact absurd rfl (h1 _ hm)
  · have := nodup_vals hnd hm h2
    subst this
    simp [Instr.lookup, run_underlying ht, MapKept.run_getObj_map hb, K.check w _ hk, h1, Result.andThen]

theorem MAt.pushed {es : Array MapEntry} {clock : Nat} (hs : Stamped es clock) (he : es.toList.map (fun e => (e.key, e.val)) = kvs) (hks : ∀ x ∈ kvs, ∃ l, keyOf P k x.1 = some l) {key val : Value} {l : Lit} (hk : keyOf P k key = some l) (hn : ∀ x ∈ kvs, x.1 ≠ key) {w' : World} (hb : w'.heap[b]? = some (.map (es.push ⟨key, val, clock⟩) (clock + 1))) :
    MAt P k w' b (kvs ++ [(key, val)]) := by
  refine ⟨_, _, hb, ⟨?_, ?_, ?_⟩, by simp [he], ?_⟩
  · intro x hx
    rw [Array.toList_push, List.mem_append] at hx
    rcases hx with hx | hx
    · have := hs.1 x hx; omega
    · rw [List.mem_singleton.1 hx]; exact Nat.lt_succ_self _
  · simp only [Array.toList_push, List.map_append, List.map_cons, List.map_nil]
    refine List.nodup_append.2 ⟨hs.2.1, by simp, fun a ha c hc e1 => ?_⟩
    simp only [List.mem_singleton] at hc
    obtain ⟨x, hx, rfl⟩ := List.mem_map.1 ha
    have := hs.1 x hx
    omega
  · simp only [Array.toList_push, List.map_append, List.map_cons, List.map_nil]
    refine List.nodup_append.2 ⟨hs.2.2, by simp, fun a ha c hc e1 => ?_⟩
    simp only [List.mem_singleton] at hc
    obtain ⟨x, hx, rfl⟩ := List.mem_map.1 ha
    exact hn (x.key, x.val) (by rw [← he]; exact List.mem_map.2 ⟨x, hx, rfl⟩) (by rw [← hc, ← e1])
  · intro x hx
    rcases List.mem_append.1 hx with h3 | h3
    · exact hks x h3
    · rw [List.mem_singleton.1 h3]; exact ⟨l, hk⟩
/-- 'm[k] = v' at a new key -/
theorem MAt.store_new (K : Go.Maps.Keyed P k) (ht : P.underlying t = some (.map k e)) (h : MAt P k w b kvs) {key : Value} (val : Value) {l : Lit} (hk : keyOf P k key = some l) (hn : ∀ x ∈ kvs, x.1 ≠ key) :
    ∃ w', (Instr.mapUpdate t (.map (some b)) key val).run P w = .ok () w' ∧ OnlyAt b w w' ∧ MAt P k w' b (kvs ++ [(key, val)]) := by
  have hlt := h.lt
  obtain ⟨es, clock, hb, hs, he, hks⟩ := h
  rcases MAt.find (w := w) K hs he hks hk with ⟨h1, _⟩ | ⟨j, v, _, h2, _⟩
  case inr => exact absurd rfl (hn _ h2)
  refine ⟨setBlock w b (.map (es.push ⟨key, val, clock⟩) (clock + 1)), ?_, onlyAt_set _ _ _, MAt.pushed hs he hks hk hn (by simp [setBlock, hlt])⟩
  simp [Instr.mapUpdate, run_underlying ht, MapKept.run_getObj_map hb, K.check w false hk, h1, MapKept.run_setObj_map _ hb, Result.andThen, setBlock]
end

section
variable {P : Program} {k t e : TypeId} {w : World} {b : Nat} {kvs : List (Value × Value)}
theorem MAt.store_fn (K : Go.Maps.Keyed P k) (ht : P.underlying t = some (.map k e)) (h : MAt P k w b kvs) {key : Value} (val : Value) {l : Lit} (hk : keyOf P k key = some l) (hn : ∀ x ∈ kvs, x.1 ≠ key) :
    ∃ f : World → World, ∀ w', Gr w w' → (Instr.mapUpdate t (.map (some b)) key val).run P w' = .ok () (f w') ∧ OnlyAt b w' (f w') ∧ MAt P k (f w') b (kvs ++ [(key, val)]) := by
  have H : ∀ w', ∃ w2, Gr w w' → (Instr.mapUpdate t (.map (some b)) key val).run P w' = .ok () w2 ∧ OnlyAt b w' w2 ∧ MAt P k w2 b (kvs ++ [(key, val)]) := fun w' => by
    by_cases g : Gr w w'
    · obtain ⟨w2, h1⟩ := (h.gr g).store_new K ht val hk hn
      exact ⟨w2, fun _ => h1⟩
    · exact ⟨w', fun g' => absurd g' g⟩
  exact ⟨fun w' => Classical.choose (H w'), fun w' => Classical.choose_spec (H w')⟩
end
/-- the entries, that at key set to v -/
def putAt (kvs : List (Value × Value)) (j : Nat) (v : Value) : List (Value × Value) := kvs.modify j fun x => (x.1, v)
section
variable {P : Program} {k t e : TypeId} {w : World} {b : Nat} {kvs : List (Value × Value)}
theorem MAt.changed {es : Array MapEntry} {clock : Nat} (hs : Stamped es clock) (he : es.toList.map (fun e => (e.key, e.val)) = kvs) (hks : ∀ x ∈ kvs, ∃ l, keyOf P k x.1 = some l) (j : Nat) (f : MapEntry → MapEntry) (val : Value) (hf : ∀ e0, es[j]? = some e0 → (f e0).key = e0.key ∧ (f e0).val = val ∧ (f e0).born = e0.born) {w' : World} (hb : w'.heap[b]? = some (.map (es.modify j f) clock)) :
    MAt P k w' b (putAt kvs j val) := by
  have hl : ∀ i, (es.modify j f).toList[i]? = (es.toList[i]?).map fun x => if j = i then f x else x := by
    intro i
    rw [Array.toList_modify, List.getElem?_modify]
    cases es.toList[i]? with
    | none => rfl
    | some x => by_cases h : j = i <;> simp [h]
  have hsame : ∀ {β : Type} (g : MapEntry → β), (∀ e0, es[j]? = some e0 → g (f e0) = g e0) → (es.modify j f).toList.map g = es.toList.map g := by
    intro β g hg
    apply List.ext_getElem?
    intro i
    rw [List.getElem?_map, List.getElem?_map, hl]
    cases h : es.toList[i]? with
    | none => rfl
    | some x =>
      by_cases hji : j = i
      · subst hji; simp [hg x (by rw [← Array.getElem?_toList]; exact h)]
      · simp [hji]
  have hborn := hsame (·.born) fun e0 h => (hf e0 h).2.2
  have hkey := hsame (·.key) fun e0 h => (hf e0 h).1
  have hkv : (es.modify j f).toList.map (fun e => (e.key, e.val)) = putAt kvs j val := by
    apply List.ext_getElem?
    intro i
    unfold putAt
    rw [List.getElem?_map, hl, List.getElem?_modify, ← he, List.getElem?_map]
    cases h : es.toList[i]? with
    | none => simp
    | some x =>
      by_cases hji : j = i
      · subst hji
        obtain ⟨h1, h2, _⟩ := hf x (by rw [← Array.getElem?_toList]; exact h)
        simp [h1, h2]
      · simp [hji]
  refine ⟨_, _, hb, ⟨fun x hx => ?_, ?_, ?_⟩, hkv, fun x hx => ?_⟩
  · have : x.born ∈ (es.modify j f).toList.map (·.born) := List.mem_map.2 ⟨x, hx, rfl⟩
    rw [hborn] at this
    obtain ⟨y, hy, h1⟩ := List.mem_map.1 this
    rw [← h1]; exact hs.1 y hy
  · rw [hborn]; exact hs.2.1
  · rw [hkey]; exact hs.2.2
  · have hx1 : x.1 ∈ (putAt kvs j val).map (·.1) := List.mem_map.2 ⟨x, hx, rfl⟩
    rw [← hkv, List.map_map] at hx1
    have hx2 : x.1 ∈ (es.modify j f).toList.map (·.key) := hx1
    rw [hkey] at hx2
    obtain ⟨y, hy, h1⟩ := List.mem_map.1 hx2
    rw [← h1]
    exact hks (y.key, y.val) (by rw [← he]; exact List.mem_map.2 ⟨y, hy, rfl⟩)
/-- 'm[k] = v' at a key that is there -/
theorem MAt.store_old (K : Go.Maps.Keyed P k) (ht : P.underlying t = some (.map k e)) (h : MAt P k w b kvs) {key v : Value} (val : Value) {l : Lit} (hk : keyOf P k key = some l) (hm : (key, v) ∈ kvs) :
    ∃ w' j, (Instr.mapUpdate t (.map (some b)) key val).run P w = .ok () w' ∧ OnlyAt b w w' ∧ kvs[j]? = some (key, v) ∧ MAt P k w' b (putAt kvs j val) := by
  have hlt := h.lt
  have hnd := h.nodup
  obtain ⟨es, clock, hb, hs, he, hks⟩ := h
  rcases MAt.find (w := w) K hs he hks hk with ⟨_, h1⟩ | ⟨j, v', h1, h2, e0, h3, h4, h5⟩
  · exact absurd rfl (h1 _ hm)
  have := nodup_vals hnd hm h2
  subst this
  refine ⟨setBlock w b (.map (es.modify j fun e => { e with key := key, val := val }) clock), j, ?_, onlyAt_set _ _ _, ?_, MAt.changed hs he hks j (fun e => { e with key := key, val := val }) val (fun e1 h6 => ⟨by rw [h3] at h6; cases h6; exact h4.symm, rfl, rfl⟩) (by simp [setBlock, hlt])⟩
  · have hst := K.stays w hk
    simp [Instr.mapUpdate, run_underlying ht, MapKept.run_getObj_map hb, K.check w false hk, h1, h3, h4, hst, MapKept.run_setObj_map _ hb, Result.andThen, setBlock]
  · rw [← he, List.getElem?_map, Array.getElem?_toList, h3]
    simp [h4, h5]
end

/-! ### laws at the operation, for regions that draw their order -/
section
variable {P : Program} {k t e : TypeId} {w : World} {b : Nat} {kvs : List (Value × Value)} {ops : Array Oper} {o : Oper} {a : Act} {KK : Act → World → Prop} {Q : Exit → Act → World → Prop} {E : Prop}
theorem step_map_new (K : Go.Maps.Keyed P k) (ht : P.underlying t = some (.map k e)) (hgd : o.guard = none) (m x v : Operand) (ho : o.op = Op.mapUpdate t m x v) (key val : Value) (l : Lit) (hm : a.eval m = .map (some b)) (hx : a.eval x = key) (hv : a.eval v = val)
    (h : MAt P k w b kvs) (hk : keyOf P k key = some l) (hn : ∀ x ∈ kvs, x.1 ≠ key) (hK : ∀ w', OnlyAt b w w' → MAt P k w' b (kvs ++ [(key, val)]) → KK (a.put o.dst undef) w') :
    if Region.wanted o (yielded ops a.tmps) = true then Oper.wp P o a w KK Q else E := by
  have hw : Region.wanted o (yielded ops a.tmps) = true := by simp [Region.wanted, hgd]
  rw [if_pos hw]
  obtain ⟨w', hrun, r1, r2⟩ := h.store_new K ht val hk hn
  unfold Oper.wp
  simp [execOp, ho, hm, hx, hv, hrun, Result.andThen]
  exact hK w' r1 r2
end
attribute [irreducible] MAt
end Go.Tok

/- Slices of slices of ints, as they stand in memory. No program is in sight here. -/
namespace Go.Tok
open Go.RowKit

theorem OwnI.mk_ {e base : Nat} {w : World} {v : Value} {xs : List Int} (h : w.ownsRow base e 1 v xs.length (xs.map (Value.int .i64))) (h2 : ∀ x ∈ xs, I64 x) : OwnI e base w v xs := by
  unfold OwnI
  exact ⟨h, h2⟩

/-- row i -/
def lrow (l : List (List Int)) (i : Nat) : List Int := l.getD i []
/-- v reads as the rows l in w -/
def Mat (w : World) (v : Value) (l : List (List Int)) : Prop :=
  ∃ a cap, v = .slice a l.length cap ∧ l.length ≤ cap ∧ cap ≤ maxLen ∧ (a = none → cap = 0) ∧
    ∀ i, i < l.length → ∃ b o u, a = some ⟨b, o, none⟩ ∧ w.cell? ⟨b, o + i, none⟩ = some u ∧ Ints w u (lrow l i)
theorem Mat.len {w : World} {v : Value} {l : List (List Int)} (h : Mat w v l) : ∃ a cap, v = .slice a l.length cap ∧ l.length ≤ cap ∧ cap ≤ 9223372036854775807 := by
  obtain ⟨a, cap, h1, h2, h3, _⟩ := h
  exact ⟨a, cap, h1, h2, by unfold maxLen at h3; omega⟩
theorem Mat.at_ {w : World} {a : Option Addr} {n cap : Nat} {l : List (List Int)} (h : Mat w (.slice a n cap) l) {i : Nat} (hi : i < l.length) :
    ∃ b o u, a = some ⟨b, o, none⟩ ∧ w.cell? ⟨b, o + i, none⟩ = some u ∧ Ints w u (lrow l i) := by
  obtain ⟨a', cap', h1, h2, h3, h4, h5⟩ := h
  cases h1
  exact h5 i hi
theorem Mat.gr {w w' : World} {v : Value} {l : List (List Int)} (h : Mat w v l) (g : Gr w w') : Mat w' v l := by
  obtain ⟨a, cap, h1, h2, h3, h4, h5⟩ := h
  refine ⟨a, cap, h1, h2, h3, h4, fun i hi => ?_⟩
  obtain ⟨b, o, u, ha, hc, hu⟩ := h5 i hi
  exact ⟨b, o, u, ha, cell_gr hc g, hu.gr g⟩
theorem Mat.nil (w : World) : Mat w (.slice none 0 0) [] := ⟨none, 0, rfl, Nat.le_refl _, by unfold maxLen; omega, fun _ => rfl, fun i hi => by simp at hi⟩
/-- two rows, as a variadic call lays them -/
theorem Mat.lit2 {w : World} {H : Nat} {t : TypeId} {p q : Value} {a b : List Int} (hH : w.heap.size = H) (hp : Ints w p a) (hq : Ints w q b) : Mat (w.alloc (.cells #[p, q] t)) (.slice (some ⟨H, 0, none⟩) 2 2) [a, b] := by
  subst hH
  refine ⟨some ⟨w.heap.size, 0, none⟩, 2, rfl, by simp, by unfold maxLen; omega, (fun h => by cases h), fun i hi => ?_⟩
  rcases i with _ | _ | i
  · exact ⟨_, 0, p, rfl, box_cell (Gr.refl _) rfl, hp.alloc _⟩
  · exact ⟨_, 0, q, rfl, box_cell (Gr.refl _) rfl, hq.alloc _⟩
  · simp at hi; omega

def sumTo (l : List (List Int)) (k : Nat) : Nat := ((l.take k).map List.length).sum
def flatTo (l : List (List Int)) (k : Nat) : List Int := (l.take k).flatten
theorem sumTo_zero (l : List (List Int)) : sumTo l 0 = 0 := by simp [sumTo]
theorem flatTo_zero (l : List (List Int)) : flatTo l 0 = [] := by simp [flatTo]
theorem take_row {l : List (List Int)} {k : Nat} (h : k < l.length) : l.take (k + 1) = l.take k ++ [lrow l k] := by
  rw [List.take_succ_eq_append_getElem h]
  simp [lrow, h]
theorem sumTo_succ {l : List (List Int)} {k : Nat} (h : k < l.length) : sumTo l (k + 1) = sumTo l k + (lrow l k).length := by
  simp [sumTo, take_row h]
theorem flatTo_succ {l : List (List Int)} {k : Nat} (h : k < l.length) : flatTo l (k + 1) = flatTo l k ++ lrow l k := by
  simp [flatTo, take_row h]
theorem flatTo_len (l : List (List Int)) (k : Nat) : (flatTo l k).length = sumTo l k := by
  simp [flatTo, sumTo, List.length_flatten]
theorem flatTo_all (l : List (List Int)) : flatTo l l.length = l.flatten := by simp [flatTo]
theorem sumTo_all (l : List (List Int)) : sumTo l l.length = l.flatten.length := by rw [← flatTo_len, flatTo_all]
theorem sumTo_le (l : List (List Int)) (k : Nat) : sumTo l k ≤ sumTo l l.length := by
  have : l.take l.length = l.take k ++ l.drop k := by simp
  unfold sumTo
  rw [this, List.map_append, List.sum_append]
  omega

section
variable {P : Program} {t e tn : TypeId}
/-- 'append(nil, make([]int, n)...)', cut to nothing: room for n -/
theorem own_room {w : World} {n : Nat} (T : IntTy P t e) (htn : P.underlying tn = some (.int .i64)) (h0 : 0 < n) (hn : n ≤ 17592186044416) :
    ∃ cap w', (∀ ty, (Builtin.append_ #[t, tn] ty #[.slice none 0 0, .int .i64 n]).run P w = .ok (.slice (some ⟨w.heap.size, 0, none⟩) n cap) w') ∧ n ≤ cap ∧ cap ≤ 9223372036854775807 ∧ OwnI e w.heap.size w' (.slice (some ⟨w.heap.size, 0, none⟩) 0 cap) [] ∧ Gr w w' := by
  obtain ⟨i, hi, hz, hs, hb⟩ := info_parts T.info
  have h1 := grownCap_ge w n 0 e
  have h2 := grownCap_le_maxLen w n 0 e (by unfold maxLen; omega)
  have hc : (Builtin.zeroCells (Value.int .i64 0).cells n ++ Builtin.zeroCells (Value.int .i64 0).cells (grownCap w n 0 e - n)).size = grownCap w n 0 e * 1 := by
    rw [Array.size_append, size_zeroCells, size_zeroCells]
    simp [Value.cells]
    omega
  refine ⟨_, _, fun ty => Lib.run_append_nil_zeros w t tn ty e i _ .i64 .i64 T.und htn hi hz n h0 (by omega) (by omega) (by rw [hb]; omega), h1, by unfold maxLen at h2; omega, ?_, ((Gr.refl _).drew).alloc _⟩
  have := World.ownsRow_made (base := w.heap.size) (e := e) (size := 1) w.drew _ (grownCap w n 0 e) (Nat.le_refl _) h2 hc
  exact OwnI.mk_ this (by simp)
end
attribute [irreducible] Mat lrow sumTo flatTo
end Go.Tok
