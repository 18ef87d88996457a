/- Texts of one family, joined; what the claim does not need is left out. -/
import Derived.WalkKit
import Derived.WalkLawsBesides
import Derived.WalkSpells
import Derived.Lib.Hide
import Derived.Shelf.Abstract
import Derived.Maps.AppendAt
import Derived.Laws.AppendOwnNone
import Derived.Deep.AppendLies
import Derived.WideKeyEntry
import Derived.Maps.Own
import Derived.DeepKeys4
import Derived.Laws.CopyOwn
import Derived.Lib.AppendZeros
import Derived.Laws.BytesArg
import Derived.ProofKit
import Derived.OpenShut
import Derived.ChangeOld
import Derived.SizedLaws
import Derived.JoinedCond
import Derived.Deep.CondSized
import Derived.Test.YtagdccgbcmnehaaGreatRows
namespace Go.Tok
open Go.RowKit

/-- the element at place p, 0 beyond the end -/
def nth (xs : List Int) (p : Nat) : Int := xs.getD p 0

theorem nth_lt {xs : List Int} {p : Nat} (h : p < xs.length) : nth xs p = xs[p] := by simp [nth, h]
theorem nth_ge {xs : List Int} {p : Nat} (h : xs.length ≤ p) : nth xs p = 0 := by simp [nth, List.getD, List.getElem?_eq_none h]


def I64 (x : Int) : Prop := -9223372036854775808 ≤ x ∧ x ≤ 9223372036854775807

def Gr (w w' : World) : Prop := Below w.heap.size w w'
theorem Gr.refl (w : World) : Gr w w := Below.refl _ _
theorem Gr.trans {a b c : World} (h : Gr a b) (k : Gr b c) : Gr a c := Below.trans h (Below.mono k h.size)
theorem Gr.alloc {a b : World} (h : Gr a b) (o : Obj) : Gr a (b.alloc o) := Below.alloc h h.size o
theorem Gr.drew {a b : World} (h : Gr a b) : Gr a b.drew := Below.drew h
theorem Gr.drewN {a b : World} (h : Gr a b) (q : Nat) : Gr a (b.drewN q) := ⟨h.os, h.tape, h.output, h.size, h.block⟩
theorem Gr.setCell {a b : World} (h : Gr a b) {p : Addr} (hp : a.heap.size ≤ p.block) (u : Value) : Gr a (b.setCell p u) := Below.setCell h hp u
theorem Gr.grown {a b c : World} {row : Option Nat} (h : Gr a b) (hg : b.grownBy c row) (hr : ∀ k, row = some k → a.heap.size ≤ k) : Gr a c := Below.grown h hg h.size hr
theorem Gr.below {a b : World} (h : Gr a b) : Below a.heap.size a b := h
theorem Gr.le {a b : World} (h : Gr a b) : a.heap.size ≤ b.heap.size := h.size

theorem cell_gr {w w' : World} {a : Addr} {v : Value} (h : w.cell? a = some v) (g : Gr w w') : w'.cell? a = some v := by
  have hb : a.block < w.heap.size := by
    unfold World.cell? at h
    split at h
    · rename_i c e f hb
      rcases Nat.lt_or_ge a.block w.heap.size with hl | hl
      · exact hl
      · rw [Array.getElem?_eq_none hl] at hb; cases hb
    · cases h
  exact (g.below.cell (p := a) hb).trans h
/-- a box that was laid, and what came behind it -/
theorem box_cell {w w' : World} {cs : Array Value} {t : TypeId} (g : Gr (w.alloc (.cells cs t)) w') {i : Nat} {v : Value} (hi : cs[i]? = some v) : w'.cell? ⟨w.heap.size, i, none⟩ = some v :=
  cell_gr (by rw [cell_of_row _ w.heap.size i cs t (0, 0) (heap_alloc_new w _)]; exact hi) g
theorem lit_cell {w : World} {H : Nat} {v : Value} {t : TypeId} (hH : w.heap.size = H) : (w.alloc (.cells #[v] t)).cell? ⟨H, 0, none⟩ = some v := by
  subst hH
  exact box_cell (Gr.refl _) (i := 0) rfl
theorem box_gr {w w' : World} {o : Obj} (g : Gr (w.alloc o) w') : Gr w w' := ((Gr.refl _).alloc o).trans g

/-- v reads as the ints xs in w -/
def Ints (w : World) (v : Value) (xs : List Int) : Prop :=
  ∃ a cap, v = .slice a xs.length cap ∧ xs.length ≤ cap ∧ cap ≤ maxLen ∧ (∀ x ∈ xs, I64 x) ∧ (a = none → cap = 0) ∧
    (∀ i, i < xs.length → ∃ b o, a = some ⟨b, o, none⟩ ∧ w.cell? ⟨b, o + i, none⟩ = some (.int .i64 (nth xs i)))

theorem nth_def (xs : List Int) (p : Nat) : nth xs p = xs.getD p 0 := rfl
theorem nth_take {xs : List Int} {k i : Nat} (h : i < k) : nth (xs.take k) i = xs.getD i 0 := by
  simp [nth, List.getD, h]
theorem Ints.intro {w : World} {v : Value} {xs : List Int} {a : Option Addr} {cap : Nat} (h1 : v = .slice a xs.length cap) (h2 : xs.length ≤ cap) (h3 : cap ≤ maxLen) (h4 : ∀ x ∈ xs, I64 x) (h6 : a = none → cap = 0)
    (h5 : ∀ i, i < xs.length → ∃ b o, a = some ⟨b, o, none⟩ ∧ w.cell? ⟨b, o + i, none⟩ = some (.int .i64 (nth xs i))) : Ints w v xs := ⟨a, cap, h1, h2, h3, h4, h6, h5⟩
theorem Ints.len {w : World} {v : Value} {xs : List Int} (h : Ints w v xs) : ∃ a cap, v = .slice a xs.length cap ∧ xs.length ≤ cap ∧ cap ≤ 9223372036854775807 := by
  obtain ⟨a, cap, h1, h2, h3, _⟩ := h
  exact ⟨a, cap, h1, h2, by unfold maxLen at h3; omega⟩

theorem Ints.range {w : World} {v : Value} {xs : List Int} (h : Ints w v xs) (p : Nat) : -9223372036854775808 ≤ nth xs p ∧ nth xs p ≤ 9223372036854775807 := by
  obtain ⟨a, cap, h1, h2, h3, h4, _⟩ := h
  by_cases hp : p < xs.length
  · rw [nth_lt hp]; exact h4 _ (List.getElem_mem hp)
  · rw [nth_ge (by omega)]; omega

theorem Ints.cell {w : World} {a : Option Addr} {n cap : Nat} {xs : List Int} (h : Ints w (.slice a n cap) xs) {i : Nat} (hi : i < xs.length) :
    ∃ b o, a = some ⟨b, o, none⟩ ∧ w.cell? ⟨b, o + i, none⟩ = some (.int .i64 (nth xs i)) := by
  obtain ⟨a', cap', h1, h2, h3, h4, _, h5⟩ := h
  cases h1
  exact h5 i hi
/-- a slice of ints: nil, or a row somewhere -/
theorem Ints.form {w : World} {v : Value} {xs : List Int} (h : Ints w v xs) : (v = .slice none 0 0 ∧ xs = []) ∨ ∃ ad cap, v = .slice (some ad) xs.length cap ∧ xs.length ≤ cap ∧ cap ≤ 9223372036854775807 := by
  obtain ⟨a, cap, h1, h2, h3, h4, h6, _⟩ := h
  cases a with
  | none =>
    have := h6 rfl
    subst this
    have h0 : xs = [] := List.eq_nil_of_length_eq_zero (by omega)
    subst h0
    exact .inl ⟨h1, rfl⟩
  | some ad => exact .inr ⟨ad, cap, h1, h2, by unfold maxLen at h3; omega⟩
theorem Ints.adds {w : World} {ad : Addr} {n cap : Nat} {xs : List Int} (h : Ints w (.slice (some ad) n cap) xs) {i : Nat} (hi : i < xs.length) : w.cell? (ad.add i) = some (.int .i64 (nth xs i)) := by
  obtain ⟨b, o, ha, hc⟩ := h.cell hi
  cases ha
  have : (⟨b, o, none⟩ : Addr).add i = ⟨b, o + i, none⟩ := by unfold Addr.add; split <;> simp_all
  rw [this]; exact hc

theorem cell_block {w : World} {a : Addr} {v : Value} (h : w.cell? a = some v) : a.block < w.heap.size := by
  unfold World.cell? at h
  split at h
  · rename_i c e f hb
    rcases Nat.lt_or_ge a.block w.heap.size with hl | hl
    · exact hl
    · rw [Array.getElem?_eq_none hl] at hb; cases hb
  · cases h

theorem Ints.below {w w' : World} {v : Value} {xs : List Int} (h : Ints w v xs) (hb : Below w.heap.size w w') : Ints w' v xs := by
  obtain ⟨a, cap, h1, h2, h3, h4, h6, h5⟩ := h
  refine ⟨a, cap, h1, h2, h3, h4, h6, fun i hi => ?_⟩
  obtain ⟨b, o, ha, hc⟩ := h5 i hi
  exact ⟨b, o, ha, (hb.cell (p := ⟨b, o + i, none⟩) (cell_block hc)).trans hc⟩

theorem Ints.gr {w w' : World} {v : Value} {xs : List Int} (h : Ints w v xs) (hb : Gr w w') : Ints w' v xs := h.below hb
theorem Ints.nil (w : World) : Ints w (.slice none 0 0) [] := ⟨none, 0, rfl, Nat.le_refl _, by unfold maxLen; omega, by simp, fun _ => rfl, fun i hi => by simp at hi⟩

theorem ret_bool {a b : Bool} (h : a = b) : Ending.returned (.bool a) = .returned (.bool b) := by rw [h]
theorem ret_i64 {a b : Int} (h : a = b) : Ending.returned (.int .i64 a) = .returned (.int .i64 b) := by rw [h]

theorem Ints.alloc {w : World} {v : Value} {xs : List Int} (h : Ints w v xs) (o : Obj) : Ints (w.alloc o) v xs := h.below ((Below.refl _ _).alloc (Nat.le_refl _) o)
/-- a literal that was laid last -/
theorem Ints.lit {w : World} {H n m : Nat} {e : TypeId} {xs : List Int} {cs : Array Value} (hH : w.heap.size = H) (hn : n = xs.length) (hm : m = xs.length) (hcs : cs.toList = xs.map (Value.int .i64)) (hI : ∀ x ∈ xs, I64 x) (hl : xs.length ≤ 1000) :
    Ints (w.alloc (.cells cs e)) (.slice (some ⟨H, 0, none⟩) n m) xs := by
  subst hH hn hm
  refine ⟨some ⟨w.heap.size, 0, none⟩, xs.length, rfl, Nat.le_refl _, by unfold maxLen; omega, hI, (fun h => by cases h), fun i hi => ⟨w.heap.size, 0, rfl, ?_⟩⟩
  rw [Nat.zero_add, cell_of_row _ w.heap.size i cs e (0, 0) (heap_alloc_new w _), nth_lt hi, ← Array.getElem?_toList, hcs]
  simp [hi]
instance decI64 (x : Int) : Decidable (I64 x) := by unfold I64; infer_instance

/-- the first place at which p holds, or -1 -/
def firstOf (p : Int → Bool) : List Int → Int
  | [] => -1
  | x :: r => if p x then 0 else if firstOf p r = -1 then -1 else firstOf p r + 1

def NoneUpto (p : Int → Bool) (xs : List Int) (k : Nat) : Prop := ∀ i, i < k → p (nth xs i) = false
theorem NoneUpto.zero (p : Int → Bool) (xs : List Int) : NoneUpto p xs 0 := fun i hi => by omega
theorem NoneUpto.succ {p : Int → Bool} {xs : List Int} {k : Nat} (h : NoneUpto p xs k) (hk : p (nth xs k) = false) : NoneUpto p xs (k + 1) := fun i hi => by
  rcases Nat.lt_or_ge i k with h1 | h1
  · exact h i h1
  · obtain rfl : i = k := by omega
    exact hk
theorem firstOf_ge (p : Int → Bool) (xs : List Int) : -1 ≤ firstOf p xs := by
  induction xs with
  | nil => simp [firstOf]
  | cons x r ih => simp only [firstOf]; split <;> (try split) <;> omega
theorem firstOf_hit {p : Int → Bool} {xs : List Int} {k : Nat} (h : NoneUpto p xs k) (hk : k < xs.length) (hp : p (nth xs k) = true) : firstOf p xs = k := by
  induction xs generalizing k with
  | nil => simp at hk
  | cons x r ih =>
    cases k with
    | zero => simp only [firstOf]; rw [if_pos (by simpa [nth] using hp)]; rfl
    | succ k =>
      have h0 : p x = false := by simpa [nth] using h 0 (by omega)
      have hr := ih (k := k) (fun i hi => by simpa [nth] using h (i + 1) (by omega)) (by simpa using hk) (by simpa [nth] using hp)
      simp only [firstOf]
      rw [if_neg (by simp [h0]), hr, if_neg (by omega)]
      simp
theorem firstOf_miss {p : Int → Bool} {xs : List Int} (h : NoneUpto p xs xs.length) : firstOf p xs = -1 := by
  induction xs with
  | nil => rfl
  | cons x r ih =>
    have h0 : p x = false := by simpa [nth] using h 0 (by simp)
    have hr := ih (fun i hi => by simpa [nth] using h (i + 1) (by simp; omega))
    simp [firstOf, h0, hr]
theorem firstOf_any (p : Int → Bool) (xs : List Int) : decide (0 ≤ firstOf p xs) = xs.any p := by
  induction xs with
  | nil => simp [firstOf]
  | cons x r ih =>
    have := firstOf_ge p r
    simp only [firstOf, List.any_cons]
    by_cases h : p x = true
    · simp [h]
    · simp only [h, Bool.false_or, ← ih]
      simp only [Bool.false_eq_true, if_false]
      split
      · rename_i h1; rw [h1]
      · rw [decide_eq_decide]; omega
/-- the element's type of '[]int': one cell of eight bytes, 0 at first -/
structure IntTy (P : Program) (t e : TypeId) : Prop where
  und : P.underlying t = some (.slice e)
  info : (P.info? e).map (fun i => (i.zero, i.size, i.bytes)) = some (some (.int .i64 0), 1, 8)

/-- v is a row of the call's own (a block from base on) that holds the ints xs -/
def OwnI (e base : Nat) (w : World) (v : Value) (xs : List Int) : Prop :=
  w.ownsRow base e 1 v xs.length (xs.map (Value.int .i64)) ∧ ∀ x ∈ xs, I64 x

theorem OwnI.nil (e base : Nat) (w : World) : OwnI e base w (.slice none 0 0) [] := ⟨World.ownsRow_nil w base e 1, by simp⟩

theorem ownsRow_below {w w' : World} {base e size : Nat} {v : Value} {n : Nat} {xs : List Value} (h : w.ownsRow base e size v n xs) (hb : Below w.heap.size w w') : w'.ownsRow base e size v n xs :=
  h.kept (row := none) ⟨hb.os, hb.tape, hb.output, hb.size, fun k hk _ => hb.block k hk⟩ (by cases hv : v.ownBlock <;> simp)

theorem OwnI.below {e base : Nat} {w w' : World} {v : Value} {xs : List Int} (h : OwnI e base w v xs) (hb : Below w.heap.size w w') : OwnI e base w' v xs := ⟨ownsRow_below h.1 hb, h.2⟩
theorem OwnI.gr {e base : Nat} {w w' : World} {v : Value} {xs : List Int} (h : OwnI e base w v xs) (hb : Gr w w') : OwnI e base w' v xs := h.below hb
theorem OwnI.alloc {e base : Nat} {w : World} {v : Value} {xs : List Int} (h : OwnI e base w v xs) (o : Obj) : OwnI e base (w.alloc o) v xs := ⟨h.1.alloc o, h.2⟩
theorem OwnI.grown {e base : Nat} {w w' : World} {v : Value} {xs : List Int} {row : Option Nat} (h : OwnI e base w v xs) (hg : w.grownBy w' row) (hne : v.ownBlock = none ∨ v.ownBlock ≠ row) : OwnI e base w' v xs := ⟨h.1.kept hg hne, h.2⟩
/-- a store into a block of the call's own that is not this row -/
theorem OwnI.other {e base : Nat} {w : World} {v : Value} {xs : List Int} (h : OwnI e base w v xs) {a : Addr} (ha : v.ownBlock ≠ some a.block) (u : Value) : OwnI e base (w.setCell a u) v xs :=
  h.grown (row := some a.block) ⟨rfl, rfl, rfl, by simp [World.setCell], fun k hk hne => Below.heap_setCell _ _ _ _ (by intro h; subst h; exact hne rfl)⟩ (.inr ha)
theorem OwnI.lt {e base : Nat} {w : World} {v : Value} {xs : List Int} (h : OwnI e base w v xs) {k : Nat} (hk : v.ownBlock = some k) : base ≤ k ∧ k < w.heap.size := h.1.lt k hk

theorem OwnI.form {e base : Nat} {w : World} {v : Value} {xs : List Int} (h : OwnI e base w v xs) : (v = .slice none 0 0 ∧ xs = []) ∨ ∃ g cap, v = .slice (some ⟨g, 0, none⟩) xs.length cap ∧ base ≤ g ∧ g < w.heap.size ∧ xs.length ≤ cap ∧ cap ≤ 9223372036854775807 := by
  rcases h.1.2 with ⟨h1, h2⟩ | ⟨g, cap, cur, h1, h2, h3, h4, h5, _⟩
  · exact .inl ⟨h1, List.eq_nil_of_length_eq_zero h2⟩
  · exact .inr ⟨g, cap, h1, h2, (Array.getElem?_eq_some_iff.1 h3).1, h4, by unfold maxLen at h5; omega⟩

theorem OwnI.cell {e base : Nat} {w : World} {g n cap : Nat} {xs : List Int} (h : OwnI e base w (.slice (some ⟨g, 0, none⟩) n cap) xs) {i : Nat} (hi : i < xs.length) :
    w.cell? ⟨g, i, none⟩ = some (.int .i64 (nth xs i)) := by
  have hn : n = xs.length := by
    rcases h.1.2 with ⟨h1, _⟩ | ⟨g', cap', cur, h1, _⟩
    · cases h1
    · cases h1; rfl
  subst hn
  rw [h.1.cellAt i (by omega), nth_lt hi]
  simp [hi]
theorem OwnI.frozen {e base : Nat} {w : World} {g n cap : Nat} {xs : List Int} (h : OwnI e base w (.slice (some ⟨g, 0, none⟩) n cap) xs) (i : Nat) : w.frozen? ⟨g, i, none⟩ = false := by
  have hn : n = xs.length := by
    rcases h.1.2 with ⟨h1, _⟩ | ⟨g', cap', cur, h1, _⟩
    · cases h1
    · cases h1; rfl
  subst hn
  exact h.1.frozenAt i

theorem OwnI.ints {e base : Nat} {w : World} {v : Value} {xs : List Int} (h : OwnI e base w v xs) : Ints w v xs := by
  rcases h.form with ⟨rfl, rfl⟩ | ⟨g, cap, rfl, _, _, h3, h4⟩
  · exact Ints.nil w
  · exact ⟨some ⟨g, 0, none⟩, cap, rfl, h3, by unfold maxLen; omega, h.2, (fun h => by cases h), fun i hi => ⟨g, 0, rfl, by rw [Nat.zero_add]; exact h.cell hi⟩⟩

/-- a literal that was laid last -/
theorem OwnI.lit {w : World} {H n m base e : Nat} {xs : List Int} {cs : Array Value} (hH : w.heap.size = H) (hn : n = xs.length) (hm : m = xs.length) (hcs : cs.toList = xs.map (Value.int .i64)) (hI : ∀ x ∈ xs, I64 x) (hl : xs.length ≤ 1000) (hb : base ≤ w.heap.size) :
    OwnI e base (w.alloc (.cells cs e)) (.slice (some ⟨H, 0, none⟩) n m) xs := by
  subst hH hn hm
  have h1 : cs.size = xs.length := by rw [← Array.length_toList, hcs]; simp
  refine ⟨⟨by simp, .inr ⟨w.heap.size, xs.length, cs, rfl, hb, heap_alloc_new w _, Nat.le_refl _, by unfold maxLen; omega, by omega, ?_⟩⟩, hI⟩
  rw [hcs, List.take_of_length_le (by simp)]

section
variable {P : Program} {t e : TypeId}
/-- 'append(out, ys...)' -/
theorem app_ints (T : IntTy P t e) {w : World} {ops : Array Oper} {rest : List Oper} {o : Oper} {a : Act} {Q : Exit → Act → World → Prop} (s x : Operand)
    (base : Nat) (v u : Value) (xs ys : List Int) (hg : o.guard = none) (hop : o.op = .call { callee := .builtin .append, args := #[s, x], argTypes := #[t, t] }) (hs : a.eval s = v) (hx : a.eval x = u) (hown : OwnI e base w v xs) (hsrc : Ints w u ys)
    (hn : xs.length + ys.length ≤ 17592186044416) (hbase : base ≤ w.heap.size)
    (hK : ∀ v' w', OwnI e base w' v' (xs ++ ys) → (∀ a : World, a.heap.size ≤ base → Gr a w → Gr a w') → w.grownBy w' v.ownBlock → (v'.ownBlock = v.ownBlock ∨ v'.ownBlock = some w.heap.size) → wpList P ops Q rest (a.put o.dst v') w') : wpList P ops Q (o :: rest) a w := by
  obtain ⟨i, hi, hz, hsz, hb⟩ := info_parts T.info
  rcases hsrc.form with ⟨rfl, rfl⟩ | ⟨ad, cap, rfl, _, _⟩
  · refine wpList_append_own_none hg s x t hop base e i 1 T.und hi v xs.length _ hs hown.1 hx ?_
    exact hK v w (by rw [List.append_nil]; exact hown) (fun _ _ h => h) ⟨rfl, rfl, rfl, Nat.le_refl _, fun _ _ _ => rfl⟩ (.inl rfl)
  · refine wpList_append_own_at w hg s x t hop base e i _ 1 8 T.und hi hz hsz hb rfl (by omega) v xs.length _ hs hown.1 ad ys.length cap (ys.map (Value.int .i64)) hx (by simp) ?_ (ints_oneCell _ _) (by unfold maxLen; omega) (by omega) hbase ?_
    · intro j u hj
      rw [List.getElem?_map] at hj
      obtain ⟨y, hy, rfl⟩ := Option.map_eq_some_iff.1 hj
      have hjl : j < ys.length := (List.getElem?_eq_some_iff.1 hy).1
      rw [hsrc.adds hjl, nth_lt hjl]
      rw [List.getElem?_eq_getElem hjl] at hy
      cases hy; rfl
    · intro v' w' ho hgr _ hat
      have hall : ∀ y ∈ ys, I64 y := by
        obtain ⟨_, _, _, _, _, h4, _⟩ := hsrc
        exact h4
      refine hK v' w' ⟨by simpa using ho, ?_⟩ ?_ hgr hat
      · intro z hz
        rcases List.mem_append.1 hz with h1 | h1
        · exact hown.2 z h1
        · exact hall z h1
      · intro a hB hb
        exact hb.grown hgr fun k hk => Nat.le_trans hB (hown.lt hk).1

/-- 'append(out, x)' -/
theorem app_int (T : IntTy P t e) {w : World} {ops : Array Oper} {rest : List Oper} {o : Oper} {a : Act} {Q : Exit → Act → World → Prop} (s x : Operand)
    (base : Nat) (v : Value) (xs : List Int) (ad : Addr) (y : Int) (hg : o.guard = none) (hop : o.op = .call { callee := .builtin .append, args := #[s, x], argTypes := #[t, t] }) (hs : a.eval s = v) (hx : a.eval x = .slice (some ad) 1 1) (hown : OwnI e base w v xs) (hcell : w.cell? ad = some (.int .i64 y)) (hy : I64 y)
    (hn : xs.length + 1 ≤ 17592186044416) (hbase : base ≤ w.heap.size)
    (hK : ∀ v' w', OwnI e base w' v' (xs ++ [y]) → (∀ a : World, a.heap.size ≤ base → Gr a w → Gr a w') → w.grownBy w' v.ownBlock → (v'.ownBlock = v.ownBlock ∨ v'.ownBlock = some w.heap.size) → wpList P ops Q rest (a.put o.dst v') w') : wpList P ops Q (o :: rest) a w := by
  obtain ⟨i, hi, hz, hsz, hb⟩ := info_parts T.info
  refine wpList_append_own_at w hg s x t hop base e i _ 1 8 T.und hi hz hsz hb rfl (by omega) v xs.length _ hs hown.1 ad 1 1 [.int .i64 y] hx rfl ?_ (by simp [Value.oneCell']) (by unfold maxLen; omega) (by omega) hbase ?_
  · intro j u hj
    cases j with
    | zero => simp at hj; subst hj; rw [show ad.add 0 = ad by unfold Addr.add; split <;> simp_all]; exact hcell
    | succ j => simp at hj
  · intro v' w' ho hgr _ hat
    refine hK v' w' ⟨by simpa using ho, ?_⟩ ?_ hgr hat
    · intro z hz
      rcases List.mem_append.1 hz with h1 | h1
      · exact hown.2 z h1
      · rw [List.mem_singleton.1 h1]; exact hy
    · intro a hB hb
      exact hb.grown hgr fun k hk => Nat.le_trans hB (hown.lt hk).1
end

def hasB (xs : List Int) (x : Int) : Bool := xs.any fun y => decide (x = y)
theorem hasB_iff (xs : List Int) (x : Int) : hasB xs x = true ↔ x ∈ xs := by simp [hasB]
theorem hasB_def (xs : List Int) (x : Int) : hasB xs x = xs.any fun y => decide (x = y) := rfl

attribute [irreducible] hasB
attribute [irreducible] Ints Gr OwnI nth NoneUpto firstOf
end Go.Tok

namespace Go.Tok
open Go.RowKit
set_option linter.unusedVariables false

/-- the blocks of S that lie in w stand in w' as they stood -/
def Kp (S : Nat → Prop) (w w' : World) : Prop := w.heap.size ≤ w'.heap.size ∧ ∀ b, b < w.heap.size → S b → w'.heap[b]? = w.heap[b]?
def All : Nat → Prop := fun _ => True
theorem Kp.refl (S : Nat → Prop) (w : World) : Kp S w w := ⟨Nat.le_refl _, fun _ _ _ => rfl⟩
theorem Kp.trans {S : Nat → Prop} {a b c : World} (h : Kp S a b) (k : Kp S b c) : Kp S a c :=
  ⟨Nat.le_trans h.1 k.1, fun i hi hs => (k.2 i (Nat.lt_of_lt_of_le hi h.1) hs).trans (h.2 i hi hs)⟩
theorem Kp.mono {S S' : Nat → Prop} {w w' : World} (h : Kp S w w') (hs : ∀ b, b < w.heap.size → S' b → S b) : Kp S' w w' := ⟨h.1, fun b hb hb' => h.2 b hb (hs b hb hb')⟩
theorem Gr.kp {S : Nat → Prop} {w w' : World} (g : Gr w w') : Kp S w w' := ⟨g.le, fun b hb _ => g.below.block b hb⟩
theorem grown_kp {S : Nat → Prop} {w w' : World} {row : Option Nat} (g : w.grownBy w' row) (h : ∀ b, S b → some b ≠ row) : Kp S w w' := ⟨g.size, fun b hb hs => g.block b hb (h b hs)⟩
theorem set_kp {S : Nat → Prop} {w : World} {a : Addr} (h : ¬ S a.block) (u : Value) : Kp S w (w.setCell a u) :=
  ⟨by simp [World.setCell], fun b _ hs => Below.heap_setCell w a u b (fun e => h (e ▸ hs))⟩

/-- p holds of w, and of every world in which the blocks of S stand as in w -/
def On (S : Nat → Prop) (p : World → Prop) (w : World) : Prop := ∀ w', Kp S w w' → p w'
theorem On.now {S : Nat → Prop} {p : World → Prop} {w : World} (h : On S p w) : p w := h w (Kp.refl _ _)
theorem On.kp {S : Nat → Prop} {p : World → Prop} {w w' : World} (h : On S p w) (k : Kp S w w') : On S p w' := fun w'' k' => h w'' (k.trans k')
theorem On.moved {S S' : Nat → Prop} {p : World → Prop} {w w' : World} (h : On S p w) (hs : w.heap.size ≤ w'.heap.size) (hk : ∀ b, b < w.heap.size → S b → S' b ∧ w'.heap[b]? = w.heap[b]?) : On S' p w' :=
  fun w'' k => h w'' ⟨Nat.le_trans hs k.1, fun b hb hb' => by
    obtain ⟨h1, h2⟩ := hk b hb hb'
    exact (k.2 b (Nat.lt_of_lt_of_le hb hs) h1).trans h2⟩
theorem On.mono {S S' : Nat → Prop} {p : World → Prop} {w : World} (h : On S p w) (hs : ∀ b, b < w.heap.size → S b → S' b) : On S' p w := h.moved (Nat.le_refl _) fun b hb hb' => ⟨hs b hb hb', rfl⟩
theorem On.imp {S : Nat → Prop} {p q : World → Prop} {w : World} (h : On S p w) (hpq : ∀ w, p w → q w) : On S q w := fun w' k => hpq _ (h w' k)
theorem On.true {S : Nat → Prop} {p : Prop} {w : World} (h : p) : On S (fun _ => p) w := fun _ _ => h
/-- what holds of an earlier world hangs on that world's blocks -/
theorem on_old {p : World → Prop} (hp : ∀ w w', Kp All w w' → p w → p w') {w0 w : World} (h : p w0) (g : Kp (fun b => b < w0.heap.size) w0 w) : On (fun b => b < w0.heap.size) p w :=
  fun w' k => hp w0 w' ⟨Nat.le_trans g.1 k.1, fun b hb _ => (k.2 b (Nat.lt_of_lt_of_le hb g.1) hb).trans (g.2 b hb hb)⟩ h
theorem On.gr {S : Nat → Prop} {p : World → Prop} {w w' : World} (h : On S p w) (g : Gr w w') : On S p w' := h.kp g.kp

theorem cell_kp {S : Nat → Prop} {w w' : World} {a : Addr} {v : Value} (k : Kp S w w') (h : w.cell? a = some v) (hs : S a.block) : w'.cell? a = some v := by
  have hb := cell_block h
  have := k.2 a.block hb hs
  unfold World.cell? at *
  rw [this]; exact h
theorem Ints.kp {w w' : World} {v : Value} {xs : List Int} (h : Ints w v xs) (k : Kp All w w') : Ints w' v xs := by
  unfold Ints at *
  obtain ⟨a, cap, h1, h2, h3, h4, h6, h5⟩ := h
  refine ⟨a, cap, h1, h2, h3, h4, h6, fun i hi => ?_⟩
  obtain ⟨b, o, ha, hc⟩ := h5 i hi
  exact ⟨b, o, ha, cell_kp k hc trivial⟩
theorem Ints.on_own {e base : Nat} {w : World} {v : Value} {xs : List Int} (h : OwnI e base w v xs) : On (fun b => v.ownBlock = some b) (fun w => Ints w v xs) w := by
  intro w' k
  rcases h.form with ⟨rfl, rfl⟩ | ⟨g, cap, rfl, _, hg, hl, hc⟩
  · exact Ints.nil _
  · have h' := h.ints
    unfold Ints at *
    obtain ⟨a, cap', h1, h2, h3, h4, h6, h5⟩ := h'
    cases h1
    refine ⟨_, _, rfl, h2, h3, h4, h6, fun i hi => ?_⟩
    obtain ⟨b, o, hb, hcell⟩ := h5 i hi
    cases hb
    exact ⟨g, 0, rfl, cell_kp k hcell rfl⟩
structure Kind (α : Type) where
  size : Nat
  R : World → List Value → α → Prop
  len : ∀ {w vs x}, R w vs x → vs.length = size
  one : ∀ {w vs x}, R w vs x → ∀ u ∈ vs, u.oneCell' = true
  mono : ∀ {w w' vs x}, Kp All w w' → R w vs x → R w' vs x
/-- an element that hangs on no memory -/
def flat {α : Type} (size : Nat) (cells : α → List Value) (ok : α → Prop) (h1 : ∀ x, (cells x).length = size) (h2 : ∀ x, ∀ u ∈ cells x, u.oneCell' = true) : Kind α :=
  ⟨size, fun _ vs x => vs = cells x ∧ ok x, fun h => by rw [h.1]; exact h1 _, fun h => by rw [h.1]; exact h2 _, fun _ h => h⟩
/-- rows of ints -/
def rowK : Kind (List Int) :=
  ⟨1, fun w vs x => ∃ u, vs = [u] ∧ Ints w u x, fun ⟨u, h, _⟩ => by rw [h]; rfl, fun ⟨u, h, hu⟩ => by
    subst h
    obtain ⟨a, cap, rfl, _⟩ := hu.len
    intro x hx; rw [List.mem_singleton.1 hx]; rfl, fun k ⟨u, h, hu⟩ => ⟨u, h, hu.kp k⟩⟩

section
variable {α : Type} [Inhabited α]
/-- the element at place i -/
def ix (xs : List α) (i : Nat) : α := xs.getD i default
theorem ix_lt {xs : List α} {i : Nat} (h : i < xs.length) : ix xs i = xs[i] := by simp [ix, h]
theorem ix_mem {xs : List α} {i : Nat} (h : i < xs.length) : ix xs i ∈ xs := by rw [ix_lt h]; exact List.getElem_mem h
theorem ix_def (xs : List α) (i : Nat) : ix xs i = xs.getD i default := rfl
theorem ix_zero (a : α) (l : List α) : ix (a :: l) 0 = a := rfl
theorem ix_succ (a : α) (l : List α) (i : Nat) : ix (a :: l) (i + 1) = ix l i := by simp [ix]
theorem take_ix {xs : List α} {k : Nat} (h : k < xs.length) : xs.take (k + 1) = xs.take k ++ [ix xs k] := by rw [List.take_succ_eq_append_getElem h, ix_lt h]
theorem drop_ix {xs : List α} {k : Nat} (h : k < xs.length) : xs.drop k = ix xs k :: xs.drop (k + 1) := by rw [List.drop_eq_getElem_cons h, ix_lt h]
theorem ext_ix {xs ys : List α} (hl : xs.length = ys.length) (h : ∀ i, i < xs.length → ix xs i = ix ys i) : xs = ys := by
  apply List.ext_getElem hl
  intro i h1 h2
  have := h i h1
  rwa [ix_lt h1, ix_lt h2] at this

/-- v reads as the elements xs in w -/
def Rd (K : Kind α) (w : World) (v : Value) (xs : List α) : Prop :=
  ∃ a cap, v = .slice a xs.length cap ∧ xs.length ≤ cap ∧ cap ≤ maxLen ∧ (a = none → cap = 0) ∧
    ∀ i, i < xs.length → ∃ b o vs, a = some ⟨b, o, none⟩ ∧ K.R w vs (ix xs i) ∧ ∀ j u, vs[j]? = some u → w.cell? ⟨b, o + i * K.size + j, none⟩ = some u
variable {K : Kind α}
theorem rd_mk {w : World} {v : Value} {xs : List α} {a : Option Addr} {cap : Nat} (h1 : v = .slice a xs.length cap) (h2 : xs.length ≤ cap) (h3 : cap ≤ maxLen) (h4 : a = none → cap = 0) (h5 : ∀ i, i < xs.length → ∃ b o vs, a = some ⟨b, o, none⟩ ∧ K.R w vs (ix xs i) ∧ ∀ j u, vs[j]? = some u → w.cell? ⟨b, o + i * K.size + j, none⟩ = some u) : Rd K w v xs := ⟨a, cap, h1, h2, h3, h4, h5⟩
theorem Rd.len {w : World} {v : Value} {xs : List α} (h : Rd K w v xs) : ∃ a cap, v = .slice a xs.length cap ∧ xs.length ≤ cap ∧ cap ≤ 9223372036854775807 := by
  obtain ⟨a, cap, h1, h2, h3, _⟩ := h
  exact ⟨a, cap, h1, h2, by unfold maxLen at h3; omega⟩
theorem Rd.form {w : World} {v : Value} {xs : List α} (h : Rd K w v xs) : (v = .slice none 0 0 ∧ xs = []) ∨ ∃ ad cap, v = .slice (some ad) xs.length cap ∧ xs.length ≤ cap ∧ cap ≤ 9223372036854775807 := by
  obtain ⟨a, cap, h1, h2, h3, h6, _⟩ := h
  cases a with
  | none =>
    have := h6 rfl
    subst this
    have h0 : xs = [] := List.eq_nil_of_length_eq_zero (by omega)
    subst h0
    exact .inl ⟨h1, rfl⟩
  | some ad => exact .inr ⟨ad, cap, h1, h2, by unfold maxLen at h3; omega⟩
theorem Rd.at_ {w : World} {a : Option Addr} {n cap : Nat} {xs : List α} (h : Rd K w (.slice a n cap) xs) {i : Nat} (hi : i < xs.length) :
    ∃ b o vs, a = some ⟨b, o, none⟩ ∧ K.R w vs (ix xs i) ∧ ∀ j u, vs[j]? = some u → w.cell? ⟨b, o + i * K.size + j, none⟩ = some u := by
  obtain ⟨a', cap', h1, h2, h3, h4, h5⟩ := h
  cases h1
  exact h5 i hi
theorem Rd.nil (w : World) : Rd K w (.slice none 0 0) [] := ⟨none, 0, rfl, Nat.le_refl _, by unfold maxLen; omega, fun _ => rfl, fun i hi => by simp at hi⟩
theorem Rd.kp {w w' : World} {v : Value} {xs : List α} (h : Rd K w v xs) (k : Kp All w w') : Rd K w' v xs := by
  obtain ⟨a, cap, h1, h2, h3, h4, h5⟩ := h
  refine ⟨a, cap, h1, h2, h3, h4, fun i hi => ?_⟩
  obtain ⟨b, o, vs, ha, hr, hc⟩ := h5 i hi
  exact ⟨b, o, vs, ha, K.mono k hr, fun j u hj => cell_kp k (hc j u hj) trivial⟩
theorem Rd.gr {w w' : World} {v : Value} {xs : List α} (h : Rd K w v xs) (g : Gr w w') : Rd K w' v xs := h.kp g.kp
theorem Rd.alloc {w : World} {v : Value} {xs : List α} (h : Rd K w v xs) (o : Obj) : Rd K (w.alloc o) v xs := h.gr ((Gr.refl _).alloc o)
end
section
variable {α : Type} {K : Kind α}
structure KTy (P : Program) (t e : TypeId) (K : Kind α) (bytes : Nat) (z : Value) : Prop where
  und : P.underlying t = some (.slice e)
  info : (P.info? e).map (fun i => (i.zero, i.size, i.bytes)) = some (some z, K.size, bytes)
  zs : z.cells.size = K.size
  pos : 0 < K.size

def cellsOf (rows : List (α × List Value)) : List Value := rows.flatMap (·.2)
/-- v is a row of the call's own (a block from base on); its elements hang on blocks of S, and not on the row's own -/
def OwnR (K : Kind α) (e base : Nat) (S : Nat → Prop) (w : World) (v : Value) (xs : List α) : Prop :=
  ∃ rows : List (α × List Value), xs = rows.map (·.1) ∧ w.ownsRow base e K.size v rows.length (cellsOf rows) ∧ ∀ r ∈ rows, On (fun b => S b ∧ v.ownBlock ≠ some b) (fun w => K.R w r.2 r.1) w
variable {e base : Nat} {S : Nat → Prop} {w : World} {v : Value} {xs : List α}
theorem OwnR.nil (e base : Nat) (S : Nat → Prop) (w : World) : OwnR K e base S w (.slice none 0 0) ([] : List α) := ⟨[], rfl, World.ownsRow_nil w base e _, by simp⟩
theorem OwnR.empty (h : w.ownsRow base e K.size v 0 []) : OwnR K e base S w v ([] : List α) := ⟨[], rfl, h, by simp⟩
theorem OwnR.lt (h : OwnR K e base S w v xs) {k : Nat} (hk : v.ownBlock = some k) : base ≤ k ∧ k < w.heap.size := by
  obtain ⟨rows, _, hr, _⟩ := h
  exact hr.lt k hk
theorem OwnR.form (h : OwnR K e base S w v xs) : (v = .slice none 0 0 ∧ xs = []) ∨ ∃ g cap, v = .slice (some ⟨g, 0, none⟩) xs.length cap ∧ base ≤ g ∧ g < w.heap.size ∧ xs.length ≤ cap ∧ cap ≤ 9223372036854775807 := by
  obtain ⟨rows, rfl, hr, _⟩ := h
  rcases hr.2 with ⟨h1, h2⟩ | ⟨g, cap, cur, h1, h2, h3, h4, h5, _⟩
  · exact .inl ⟨h1, by rw [List.eq_nil_of_length_eq_zero h2]; rfl⟩
  · exact .inr ⟨g, cap, by rw [List.length_map]; exact h1, h2, (Array.getElem?_eq_some_iff.1 h3).1, by rw [List.length_map]; exact h4, by unfold maxLen at h5; omega⟩
theorem OwnR.len (h : OwnR K e base S w v xs) : ∃ a cap, v = .slice a xs.length cap ∧ xs.length ≤ cap ∧ cap ≤ 9223372036854775807 := by
  rcases h.form with ⟨rfl, rfl⟩ | ⟨g, cap, h1, _, _, h2, h3⟩
  · exact ⟨none, 0, rfl, Nat.le_refl _, by omega⟩
  · exact ⟨_, cap, h1, h2, h3⟩
theorem OwnR.gr {w' : World} (h : OwnR K e base S w v xs) (g : Gr w w') : OwnR K e base S w' v xs := by
  obtain ⟨rows, h1, h2, h3⟩ := h
  exact ⟨rows, h1, ownsRow_below h2 g.below, fun r hr => (h3 r hr).gr g⟩
theorem OwnR.alloc (h : OwnR K e base S w v xs) (o : Obj) : OwnR K e base S (w.alloc o) v xs := h.gr ((Gr.refl _).alloc o)
theorem OwnR.sets {S' : Nat → Prop} (h : OwnR K e base S w v xs) (hs : ∀ b, b < w.heap.size → S b → S' b) : OwnR K e base S' w v xs := by
  obtain ⟨rows, h1, h2, h3⟩ := h
  exact ⟨rows, h1, h2, fun r hr => (h3 r hr).mono fun b hb h => ⟨hs b hb h.1, h.2⟩⟩
theorem OwnR.low {base' : Nat} (h : OwnR K e base S w v xs) (hb : base' ≤ base) : OwnR K e base' S w v xs := by
  obtain ⟨rows, h1, h2, h3⟩ := h
  refine ⟨rows, h1, ⟨h2.1, ?_⟩, h3⟩
  rcases h2.2 with h4 | ⟨g, cap, cur, h4, h5, h6⟩
  · exact .inl h4
  · exact .inr ⟨g, cap, cur, h4, Nat.le_trans hb h5, h6⟩
/-- another row was written: its block lies outside S -/
theorem OwnR.kept {S' : Nat → Prop} {w' : World} {row : Option Nat} (h : OwnR K e base S w v xs) (hg : w.grownBy w' row) (hne : v.ownBlock = none ∨ v.ownBlock ≠ row) (hS : ∀ b, b < w.heap.size → S b → S' b ∧ some b ≠ row) : OwnR K e base S' w' v xs := by
  obtain ⟨rows, h1, h2, h3⟩ := h
  refine ⟨rows, h1, h2.kept hg hne, fun r hr => (h3 r hr).moved hg.size fun b hb hs => ?_⟩
  obtain ⟨h4, h5⟩ := hS b hb hs.1
  exact ⟨⟨h4, hs.2⟩, hg.block b hb h5⟩
theorem OwnR.other (h : OwnR K e base S w v xs) {a : Addr} (ha : v.ownBlock ≠ some a.block) (hS : ¬ S a.block) (u : Value) : OwnR K e base S (w.setCell a u) v xs :=
  h.kept (row := some a.block) ⟨rfl, rfl, rfl, by simp [World.setCell], fun k hk hne => Below.heap_setCell _ _ _ _ (by intro h; subst h; exact hne rfl)⟩ (.inr ha) (fun b _ hb => ⟨hb, fun e => hS (by cases e; exact hb)⟩)

theorem cellsOf_at {n : Nat} : ∀ {rows : List (α × List Value)} {i j : Nat}, (∀ r ∈ rows, r.2.length = n) → i < rows.length → j < n → (cellsOf rows)[i * n + j]? = (rows[i]?.bind fun r => r.2[j]?) := by
  intro rows
  induction rows with
  | nil => intro i j _ hi; simp at hi
  | cons r rest ih =>
    intro i j hall hi hj
    have hr := hall r (by simp)
    have e : cellsOf (r :: rest) = r.2 ++ cellsOf rest := by simp [cellsOf]
    rw [e]
    cases i with
    | zero => rw [List.getElem?_append_left (by omega)]; simp
    | succ i =>
      rw [List.getElem?_append_right (by rw [hr, Nat.add_mul]; omega), hr, show (i + 1) * n + j - n = i * n + j by rw [Nat.add_mul]; omega, ih (fun r' hr' => hall r' (by simp [hr'])) (by simpa using hi) hj]
      simp
theorem OwnR.at_ [Inhabited α] {g n cap : Nat} (h : OwnR K e base S w (.slice (some ⟨g, 0, none⟩) n cap) xs) {i : Nat} (hi : i < xs.length) :
    ∃ vs, On (fun b => S b ∧ b ≠ g) (fun w => K.R w vs (ix xs i)) w ∧ ∀ j u, vs[j]? = some u → w.cell? ⟨g, i * K.size + j, none⟩ = some u := by
  obtain ⟨rows, rfl, hr, hall⟩ := h
  have hlen : ∀ r ∈ rows, r.2.length = K.size := fun r hr => K.len (hall r hr).now
  have hi' : i < rows.length := by simpa using hi
  have hn : n = rows.length := by
    rcases hr.2 with ⟨h1, _⟩ | ⟨_, _, _, h1, _⟩
    · cases h1
    · cases h1; rfl
  subst hn
  refine ⟨rows[i].2, ?_, fun j u hj => ?_⟩
  · have := hall rows[i] (List.getElem_mem hi')
    rw [ix_lt hi, List.getElem_map]
    exact this.mono fun b _ hb => ⟨hb.1, fun e => hb.2 (by rw [e]; rfl)⟩
  · have hj' : j < K.size := by
      have := (List.getElem?_eq_some_iff.1 hj).1
      rwa [hlen _ (List.getElem_mem hi')] at this
    have hb : i * K.size + j < rows.length * K.size := by
      have : (i + 1) * K.size ≤ rows.length * K.size := Nat.mul_le_mul_right _ hi'
      rw [Nat.add_mul] at this; omega
    rw [hr.cellAt _ hb, cellsOf_at hlen hi' hj']
    simp [hi', hj]
/-- what it reads as hangs on the row and on S -/
theorem OwnR.on [Inhabited α] {S' : Nat → Prop} (h : OwnR K e base S w v xs) (hS : ∀ b, b < w.heap.size → S b → S' b) (hv : ∀ b, v.ownBlock = some b → S' b) : On S' (fun w => Rd K w v xs) w := by
  intro w' k
  rcases h.form with ⟨rfl, rfl⟩ | ⟨g, cap, rfl, _, hg, hl, hc⟩
  · exact Rd.nil _
  · refine ⟨_, cap, rfl, hl, by unfold maxLen; omega, (fun h => by cases h), fun i hi => ?_⟩
    obtain ⟨vs, h1, h2⟩ := h.at_ hi
    refine ⟨g, 0, vs, rfl, ?_, fun j u hj => ?_⟩
    · exact h1 w' (k.mono fun b hb hb' => hS b hb hb'.1)
    · rw [Nat.zero_add]
      exact cell_kp k (h2 j u hj) (hv g rfl)
theorem OwnR.rd [Inhabited α] (h : OwnR K e base S w v xs) : Rd K w v xs := (h.on (S' := All) (fun _ _ _ => trivial) (fun _ _ => trivial)).now
/-- a literal that was laid last -/
theorem OwnR.lit {H n m : Nat} {cs : Array Value} (rows : List (α × List Value)) (hx : xs = rows.map (·.1)) (hH : w.heap.size = H) (hn : n = xs.length) (hm : m = xs.length) (hcs : cs.toList = cellsOf rows) (hl : xs.length ≤ 1000) (hb : base ≤ w.heap.size)
    (hS : ∀ r ∈ rows, On (fun b => S b ∧ b ≠ H) (fun w => K.R w r.2 r.1) w) : OwnR K e base S (w.alloc (.cells cs e)) (.slice (some ⟨H, 0, none⟩) n m) xs := by
  subst hH hn hm hx
  have hlen : ∀ r ∈ rows, r.2.length = K.size := fun r hr => K.len (hS r hr).now
  have hsz : (cellsOf rows).length = rows.length * K.size := by
    clear hcs hl hS hb
    induction rows with
    | nil => simp [cellsOf]
    | cons r rest ih =>
      have e : cellsOf (r :: rest) = r.2 ++ cellsOf rest := by simp [cellsOf]
      rw [e, List.length_append, ih (fun r' hr' => hlen r' (by simp [hr'])), hlen r (by simp), List.length_cons, Nat.add_mul]; omega
  refine ⟨rows, rfl, ⟨hsz, .inr ⟨w.heap.size, rows.length, cs, by simp, hb, heap_alloc_new w _, Nat.le_refl _, by unfold maxLen; rw [List.length_map] at hl; omega, ?_, ?_⟩⟩, fun r hr => ?_⟩
  · rw [← Array.length_toList, hcs, hsz]
  · rw [hcs, List.take_of_length_le (by omega)]
  · refine ((hS r hr).gr ((Gr.refl _).alloc _)).mono fun b _ hb' => ⟨hb'.1, fun e => hb'.2 ?_⟩
    have : w.heap.size = b := by simpa [Value.ownBlock] using e
    exact this.symm
end

section
variable {α : Type} {K : Kind α} {P : Program} {t e : TypeId} {bytes : Nat} {z : Value}
theorem grown_own {S : Nat → Prop} {base : Nat} {w w' : World} {v v' : Value} {rows : List (α × List Value)} {x : α} {vs : List Value} (ho' : w'.ownsRow base e K.size v' (rows.length + 1) (cellsOf rows ++ vs)) (hall : ∀ r ∈ rows, On (fun b => S b ∧ v.ownBlock ≠ some b) (fun w => K.R w r.2 r.1) w)
    (hx : On (fun b => S b ∧ v.ownBlock ≠ some b) (fun w => K.R w vs x) w) (hg : w.grownBy w' v.ownBlock) (hat : v'.ownBlock = v.ownBlock ∨ v'.ownBlock = some w.heap.size) : OwnR K e base S w' v' (rows.map (·.1) ++ [x]) := by
  refine ⟨rows ++ [(x, vs)], by simp, by rw [List.length_append, show cellsOf (rows ++ [(x, vs)]) = cellsOf rows ++ vs by simp [cellsOf]]; exact ho', fun r hr => ?_⟩
  have key : On (fun b => S b ∧ v.ownBlock ≠ some b) (fun w => K.R w r.2 r.1) w := by
    rcases List.mem_append.1 hr with h | h
    · exact hall r h
    · rw [List.mem_singleton.1 h]; exact hx
  refine key.moved hg.size fun b hb hs => ⟨⟨hs.1, ?_⟩, hg.block b hb (fun e => hs.2 e.symm)⟩
  rcases hat with h | h
  · rw [h]; exact hs.2
  · rw [h]; intro e; have : w.heap.size = b := by simpa using e
    omega

/-- 'append(out, x)' -/
theorem app_one (T : KTy P t e K bytes z) {w : World} {ops : Array Oper} {rest : List Oper} {o : Oper} {a : Act} {Q : Exit → Act → World → Prop} (s x : Operand)
    (base : Nat) (S : Nat → Prop) (v : Value) (xs : List α) (ad : Addr) (y : α) (vs : List Value) (hg : o.guard = none) (hop : o.op = .call { callee := .builtin .append, args := #[s, x], argTypes := #[t, t] }) (hs : a.eval s = v) (hx : a.eval x = .slice (some ad) 1 1)
    (hown : OwnR K e base S w v xs) (hcell : ∀ j u, vs[j]? = some u → w.cell? (ad.add j) = some u) (hy : On (fun b => S b ∧ v.ownBlock ≠ some b) (fun w => K.R w vs y) w) (hn : (xs.length + 1) * bytes ≤ 140737488355328) (hn' : xs.length + 1 ≤ maxLen) (hbase : base ≤ w.heap.size)
    (hK : ∀ v' w', OwnR K e base S w' v' (xs ++ [y]) → (∀ a : World, a.heap.size ≤ base → Gr a w → Gr a w') → w.grownBy w' v.ownBlock → (v'.ownBlock = v.ownBlock ∨ v'.ownBlock = some w.heap.size) → wpList P ops Q rest (a.put o.dst v') w') : wpList P ops Q (o :: rest) a w := by
  obtain ⟨i, hi, hz, hsz, hb⟩ := info_parts T.info
  obtain ⟨rows, rfl, hr, hall⟩ := hown
  rw [List.length_map] at hn hn'
  refine wpList_append_own_at w hg s x t hop base e i z K.size bytes T.und hi hz hsz hb T.zs T.pos v rows.length _ hs hr ad 1 1 vs hx (by rw [K.len hy.now]; simp) hcell (K.one hy.now) hn' hn hbase ?_
  intro v' w' ho' hgr _ hat
  exact hK v' w' (grown_own ho' hall hy hgr hat) (fun a hB hb => hb.grown hgr fun k hk => Nat.le_trans hB (hr.lt k hk).1) hgr hat

theorem flatten_zip {α : Type} : ∀ (ys : List α) (vss : List (List Value)), vss.length ≤ ys.length → (ys.zip vss).flatMap (·.2) = vss.flatten
  | _, [], _ => by simp
  | [], _ :: _, h => by simp at h
  | y :: ys, v :: vss, h => by simp at h; simp [flatten_zip ys vss h]
/-- 'append(out, ys...)', elements that hang on no memory of the row's -/
theorem app_many [Inhabited α] (T : KTy P t e K bytes z) {w : World} {ops : Array Oper} {rest : List Oper} {o : Oper} {a : Act} {Q : Exit → Act → World → Prop} (s x : Operand)
    (base : Nat) (S : Nat → Prop) (v u : Value) (xs ys : List α) (vss : List (List Value)) (hg : o.guard = none) (hop : o.op = .call { callee := .builtin .append, args := #[s, x], argTypes := #[t, t] }) (hs : a.eval s = v) (hx : a.eval x = u) (hown : OwnR K e base S w v xs) (hsrc : Rd K w u ys)
    (hl : vss.length = ys.length) (hcell : ∀ ad n c, u = .slice (some ad) n c → ∀ j x, vss.flatten[j]? = some x → w.cell? (ad.add j) = some x) (hy : ∀ i, i < ys.length → On (fun b => S b ∧ v.ownBlock ≠ some b) (fun w => K.R w (vss.getD i []) (ix ys i)) w)
    (hn : (xs.length + ys.length) * bytes ≤ 140737488355328) (hn' : xs.length + ys.length ≤ maxLen) (hbase : base ≤ w.heap.size)
    (hK : ∀ v' w', OwnR K e base S w' v' (xs ++ ys) → (∀ a : World, a.heap.size ≤ base → Gr a w → Gr a w') → w.grownBy w' v.ownBlock → (v'.ownBlock = v.ownBlock ∨ v'.ownBlock = some w.heap.size) → wpList P ops Q rest (a.put o.dst v') w') : wpList P ops Q (o :: rest) a w := by
  obtain ⟨i, hi, hz, hsz, hb⟩ := info_parts T.info
  rcases hsrc.form with ⟨rfl, rfl⟩ | ⟨ad, cap, rfl, hl1, hl2⟩
  · obtain ⟨rows, rfl, hr, hall⟩ := hown
    refine wpList_append_own_none hg s x t hop base e i K.size T.und hi v rows.length _ hs hr hx ?_
    exact hK v w ⟨rows, by simp, hr, hall⟩ (fun _ _ h => h) ⟨rfl, rfl, rfl, Nat.le_refl _, fun _ _ _ => rfl⟩ (.inl rfl)
  · obtain ⟨rows, rfl, hr, hall⟩ := hown
    rw [List.length_map] at hn hn'
    have hlen : ∀ vs ∈ vss, vs.length = K.size := by
      intro vs hvs
      obtain ⟨j, hj, rfl⟩ := List.getElem_of_mem hvs
      have := K.len (hy j (by omega)).now
      simpa [hj] using this
    have hfl : vss.flatten.length = ys.length * K.size := by
      rw [← hl]
      clear hcell hy hl
      induction vss with
      | nil => simp
      | cons a r ih => rw [List.flatten_cons, List.length_append, ih (fun vs h => hlen vs (by simp [h])), hlen a (by simp), List.length_cons, Nat.add_mul]; omega
    have hone : ∀ u ∈ vss.flatten, u.oneCell' = true := by
      intro u hu
      obtain ⟨vs, hvs, hu⟩ := List.mem_flatten.1 hu
      obtain ⟨j, hj, rfl⟩ := List.getElem_of_mem hvs
      have := K.one (hy j (by omega)).now u
      simp [hj] at this
      exact this hu
    refine wpList_append_own_at w hg s x t hop base e i z K.size bytes T.und hi hz hsz hb T.zs T.pos v rows.length _ hs hr ad ys.length cap vss.flatten hx hfl (hcell ad _ _ rfl) hone hn' hn hbase ?_
    intro v' w' ho' hgr _ hat
    refine hK v' w' ⟨rows ++ ys.zip vss, ?_, ?_, ?_⟩ (fun a hB hb => hb.grown hgr fun k hk => Nat.le_trans hB (hr.lt k hk).1) hgr hat
    · rw [List.map_append, List.map_fst_zip (by omega)]
    · rw [List.length_append, List.length_zip, hl, Nat.min_self]
      have : cellsOf (rows ++ ys.zip vss) = cellsOf rows ++ vss.flatten := by
        unfold cellsOf
        rw [List.flatMap_append]
        congr 1
        exact flatten_zip _ _ (by omega)
      rw [this]; exact ho'
    · intro r hr'
      have key : On (fun b => S b ∧ v.ownBlock ≠ some b) (fun w => K.R w r.2 r.1) w := by
        rcases List.mem_append.1 hr' with h | h
        · exact hall r h
        · obtain ⟨j, hj, rfl⟩ := List.getElem_of_mem h
          rw [List.length_zip] at hj
          have := hy j (by omega)
          rw [ix_lt (by omega)] at this
          have hj2 : j < vss.length := by omega
          simpa [hj2] using this
      refine key.moved hgr.size fun b hb hs => ⟨⟨hs.1, ?_⟩, hgr.block b hb (fun e => hs.2 e.symm)⟩
      rcases hat with h | h
      · rw [h]; exact hs.2
      · rw [h]; intro e; have : w.heap.size = b := by simpa using e
        omega
end
theorem add_none (b o j : Nat) : (⟨b, o, none⟩ : Addr).add j = ⟨b, o + j, none⟩ := by unfold Addr.add; split <;> simp_all
attribute [irreducible] ix Rd OwnR On Kp
end Go.Tok

namespace Go.Tok
open Go.RowKit

structure TranD where
  label : Int
  pre : List Int
  post : List Int
deriving DecidableEq
structure NetD where
  places : Int
  trans : List TranD
deriving DecidableEq
instance : Inhabited TranD := ⟨⟨0, [], []⟩⟩

end Go.Tok

namespace Go.Tok
open Go.RowKit
open Go.MapKept (Stamped)
open Go.ChangeMaps (setBlock)
open Go.WideMaps (KeyLaw)
set_option linter.unusedVariables false

section
variable {P : Program} {k t e : TypeId} {w : World} {b : Nat} {xs : List Value}
/-- only block b has turned -/
def OnlyAt (b : Nat) (w w' : World) : Prop := w'.os = w.os ∧ w'.tape = w.tape ∧ w'.output = w.output ∧ w'.heap.size = w.heap.size ∧ ∀ c, c ≠ b → w'.heap[c]? = w.heap[c]?
theorem onlyAt_set (w : World) (b : Nat) (o : Obj) : OnlyAt b w (setBlock w b o) :=
  ⟨rfl, rfl, rfl, by simp [setBlock], fun c hc => by simp [setBlock, Ne.symm hc]⟩
end
end Go.Tok

namespace Go.Tok
open Go.RowKit
set_option linter.unusedVariables false

def Blk (w : World) (g : Nat) (t : TypeId) (cs : Array Value) : Prop := w.heap[g]? = some (.cells cs t (0, 0))
theorem Blk.lt {w : World} {g : Nat} {t : TypeId} {cs : Array Value} (h : Blk w g t cs) : g < w.heap.size := (Array.getElem?_eq_some_iff.1 h).1
theorem Blk.cell {w : World} {g : Nat} {t : TypeId} {cs : Array Value} (h : Blk w g t cs) {i : Nat} {v : Value} (hi : cs[i]? = some v) : w.cell? ⟨g, i, none⟩ = some v := by
  rw [cell_of_row w g i cs t (0, 0) h]; exact hi
theorem Blk.frozen {w : World} {g : Nat} {t : TypeId} {cs : Array Value} (h : Blk w g t cs) (i : Nat) : w.frozen? ⟨g, i, none⟩ = false := by
  unfold Blk at h
  simp [World.frozen?, h]
theorem Blk.gr {w w' : World} {g : Nat} {t : TypeId} {cs : Array Value} (h : Blk w g t cs) (hg : Gr w w') : Blk w' g t cs := (hg.below.block g h.lt).trans h
theorem Blk.new {w : World} {H : Nat} {t : TypeId} {cs : Array Value} (hH : w.heap.size = H) : Blk (w.alloc (.cells cs t)) H t cs := by
  subst hH; exact heap_alloc_new w _
theorem Blk.grown {w w' : World} {g : Nat} {t : TypeId} {cs : Array Value} {row : Option Nat} (h : Blk w g t cs) (hg : w.grownBy w' row) (hne : some g ≠ row) : Blk w' g t cs := (hg.block g h.lt hne).trans h
theorem Blk.other {w : World} {g : Nat} {t : TypeId} {cs : Array Value} (h : Blk w g t cs) {a : Addr} (hne : g ≠ a.block) (u : Value) : Blk (w.setCell a u) g t cs := (Below.heap_setCell w a u g hne).trans h
theorem Blk.set {w : World} {g : Nat} {t : TypeId} {cs : Array Value} (h : Blk w g t cs) (i : Nat) (u : Value) : Blk (w.setCell ⟨g, i, none⟩ u) g t (cs.setIfInBounds i u) := by
  unfold Blk at *
  simp [World.setCell, Array.getElem?_modify, h]

attribute [irreducible] Blk
end Go.Tok

namespace Go.Tok
open Go.RowKit
set_option linter.unusedVariables false

section
variable {α : Type}
/-- the first place at which p holds, or -1 -/
def firstI (p : α → Bool) : List α → Int
  | [] => -1
  | x :: r => if p x then 0 else if firstI p r = -1 then -1 else firstI p r + 1
def NoneI [Inhabited α] (p : α → Bool) (xs : List α) (k : Nat) : Prop := ∀ i, i < k → p (ix xs i) = false
theorem NoneI.intro [Inhabited α] {p : α → Bool} {xs : List α} {k : Nat} (h : ∀ i, i < k → p (ix xs i) = false) : NoneI p xs k := h
theorem NoneI.zero [Inhabited α] (p : α → Bool) (xs : List α) : NoneI p xs 0 := fun i hi => by omega
theorem NoneI.succ [Inhabited α] {p : α → Bool} {xs : List α} {k : Nat} (h : NoneI p xs k) (hk : p (ix xs k) = false) : NoneI p xs (k + 1) := fun i hi => by
  rcases Nat.lt_or_ge i k with h1 | h1
  · exact h i h1
  · obtain rfl : i = k := by omega
    exact hk
theorem firstI_ge (p : α → Bool) (xs : List α) : -1 ≤ firstI p xs := by
  induction xs with
  | nil => simp [firstI]
  | cons x r ih => simp only [firstI]; split <;> (try split) <;> omega
theorem firstI_hit [Inhabited α] {p : α → Bool} {xs : List α} {k : Nat} (h : NoneI p xs k) (hk : k < xs.length) (hp : p (ix xs k) = true) : firstI p xs = k := by
  induction xs generalizing k with
  | nil => simp at hk
  | cons x r ih =>
    cases k with
    | zero => rw [ix_zero] at hp; simp [firstI, hp]
    | succ k =>
      have h0 : p x = false := by have := h 0 (by omega); rwa [ix_zero] at this
      have hr := ih (k := k) (fun i hi => by have := h (i + 1) (by omega); rwa [ix_succ] at this) (by simpa using hk) (by rwa [ix_succ] at hp)
      simp only [firstI]
      rw [if_neg (by simp [h0]), hr, if_neg (by omega)]
      simp
theorem firstI_miss [Inhabited α] {p : α → Bool} {xs : List α} (h : NoneI p xs xs.length) : firstI p xs = -1 := by
  induction xs with
  | nil => rfl
  | cons x r ih =>
    have h0 : p x = false := by have := h 0 (by simp); rwa [ix_zero] at this
    have hr := ih (fun i hi => by have := h (i + 1) (by simp; omega); rwa [ix_succ] at this)
    simp [firstI, h0, hr]
theorem firstI_any (p : α → Bool) (xs : List α) : decide (0 ≤ firstI p xs) = xs.any p := by
  induction xs with
  | nil => simp [firstI]
  | cons x r ih =>
    have := firstI_ge p r
    simp only [firstI, List.any_cons]
    by_cases h : p x = true
    · simp [h]
    · simp only [h, Bool.false_or, ← ih]
      simp only [Bool.false_eq_true, if_false]
      split
      · rename_i h1; rw [h1]
      · rw [decide_eq_decide]; omega
end
attribute [irreducible] firstI NoneI
end Go.Tok

namespace Go.Tok
open Go.RowKit
set_option linter.unusedVariables false

theorem same_quiet {P : Program} {f : Nat} {args : Array Value} {w : World} {r : Value} (h : Calls P f args w fun e w' => e = .returned r ∧ w = w') : Calls P f args w fun e w' => e = .returned r ∧ w' = w := h.mono fun _ _ h => ⟨h.1, h.2.symm⟩
theorem OwnI.low {e base base' : Nat} {w : World} {v : Value} {xs : List Int} (h : OwnI e base w v xs) (hb : base' ≤ base) : OwnI e base' w v xs := by
  unfold OwnI at *
  refine ⟨⟨h.1.1, ?_⟩, h.2⟩
  rcases h.1.2 with h4 | ⟨g, cap, cur, h4, h5, h6⟩
  · exact .inl h4
  · exact .inr ⟨g, cap, cur, h4, Nat.le_trans hb h5, h6⟩
end Go.Tok

namespace Go.Tok
open Go.RowKit
open Go.MapKept (Stamped)
open Go.ChangeMaps (setBlock)

set_option linter.unusedVariables false

theorem OnlyAt.grown {a c : World} {b : Nat} (h : OnlyAt b a c) : a.grownBy c (some b) := ⟨h.1, h.2.1, h.2.2.1, Nat.le_of_eq h.2.2.2.1.symm, fun x hx hne => h.2.2.2.2 x (fun e => hne (by rw [e]))⟩
/-- block b is a map with just these entries -/
def MAt (P : Program) (k : TypeId) (w : World) (b : Nat) (kvs : List (Value × Value)) : Prop :=
  ∃ es clock, w.heap[b]? = some (.map es clock) ∧ Stamped es clock ∧ es.toList.map (fun e => (e.key, e.val)) = kvs ∧ ∀ x ∈ kvs, ∃ l, keyOf P k x.1 = some l

section
variable {P : Program} {k t e : TypeId} {w : World} {b : Nat} {kvs : List (Value × Value)}
theorem MAt.new (w : World) : MAt P k (w.alloc (.map #[] 0)) w.heap.size [] := ⟨#[], 0, heap_alloc_new w _, MapKept.stamped_empty 0, rfl, by simp⟩
theorem MAt.lt (h : MAt P k w b kvs) : b < w.heap.size := by
  obtain ⟨es, clock, hb, _⟩ := h
  exact (Array.getElem?_eq_some_iff.1 hb).1
theorem MAt.block {w' : World} (h : MAt P k w b kvs) (hb : w'.heap[b]? = w.heap[b]?) : MAt P k w' b kvs := by
  obtain ⟨es, clock, h1, h2⟩ := h
  exact ⟨es, clock, hb.trans h1, h2⟩
theorem MAt.gr {w' : World} (h : MAt P k w b kvs) (g : Gr w w') : MAt P k w' b kvs := h.block (g.below.block b h.lt)
theorem MAt.grown {w' : World} {row : Option Nat} (h : MAt P k w b kvs) (g : w.grownBy w' row) (hne : some b ≠ row) : MAt P k w' b kvs := h.block (g.block b h.lt hne)
theorem MAt.nodup (h : MAt P k w b kvs) : (kvs.map (·.1)).Nodup := by
  obtain ⟨es, clock, _, h2, h3, _⟩ := h
  rw [← h3, List.map_map]; exact h2.2.2
theorem nodup_vals {l : List (Value × Value)} (h : (l.map (·.1)).Nodup) {x v v' : Value} (h1 : (x, v) ∈ l) (h2 : (x, v') ∈ l) : v = v' := by
  induction l with
  | nil => simp at h1
  | cons y r ih =>
    rw [List.map_cons, List.nodup_cons] at h
    rcases List.mem_cons.1 h1 with h3 | h3 <;> rcases List.mem_cons.1 h2 with h4 | h4
    · rw [← h3] at h4; exact (Prod.mk.inj h4).2.symm
    · exact absurd (List.mem_map.2 ⟨_, h4, by rw [← h3]⟩) h.1
    · exact absurd (List.mem_map.2 ⟨_, h3, by rw [← h4]⟩) h.1
    · exact ih h.2 h3 h4
theorem MAt.find (K : Go.Maps.Keyed P k) {es : Array MapEntry} {clock : Nat} (hs : Stamped es clock) (he : es.toList.map (fun e => (e.key, e.val)) = kvs) (hks : ∀ x ∈ kvs, ∃ l, keyOf P k x.1 = some l) {key : Value} {l : Lit} (hk : keyOf P k key = some l) :
    ((Instr.findKey k key es.toList).run P w = .ok none w ∧ ∀ x ∈ kvs, x.1 ≠ key) ∨ ∃ j v, (Instr.findKey k key es.toList).run P w = .ok (some (j, v)) w ∧ (key, v) ∈ kvs ∧ ∃ e0, es[j]? = some e0 ∧ e0.key = key ∧ e0.val = v := by
  rcases K.find w hk es.toList (fun x hx => hks (x.key, x.val) (by rw [← he]; exact List.mem_map.2 ⟨x, hx, rfl⟩)) with ⟨h1, h2⟩ | ⟨j, e0, h1, h2, h3⟩
  · refine .inl ⟨h1, fun x hx => ?_⟩
    rw [← he] at hx
    obtain ⟨y, hy, rfl⟩ := List.mem_map.1 hx
    exact h2 y hy
  · refine .inr ⟨j, e0.val, h1, ?_, e0, by rw [← Array.getElem?_toList]; exact h2, h3, rfl⟩
    rw [← he]; exact List.mem_map.2 ⟨e0, List.mem_of_getElem? h2, by rw [h3]⟩
section
variable {z : Value}
theorem MAt.look_no (K : Go.Maps.Keyed P k) (ht : P.underlying t = some (.map k e)) (hz : ∀ u : World, (zeroValue e).run P u = .ok z u) (h : MAt P k w b kvs) {key : Value} {l : Lit} (hk : keyOf P k key = some l) (hn : ∀ x ∈ kvs, x.1 ≠ key) :
    (Instr.lookup t (.map (some b)) key false).run P w = .ok z w := by
  obtain ⟨es, clock, hb, hs, he, hks⟩ := h
  rcases MAt.find (w := w) K hs he hks hk with ⟨h1, _⟩ | ⟨j, v, _, h2, _⟩
  · simp [Instr.lookup, run_underlying ht, MapKept.run_getObj_map hb, K.check w _ hk, h1, hz, Result.andThen]
  · exact absurd rfl (hn _ h2)
end
theorem MAt.look_yes (K : Go.Maps.Keyed P k) (ht : P.underlying t = some (.map k e)) (h : MAt P k w b kvs) {key v : Value} {l : Lit} (hk : keyOf P k key = some l) (hm : (key, v) ∈ kvs) :
    (Instr.lookup t (.map (some b)) key false).run P w = .ok v w := by
  have hnd := h.nodup
  obtain ⟨es, clock, hb, hs, he, hks⟩ := h
  rcases MAt.find (w := w) K hs he hks hk with ⟨_, h1⟩ | ⟨j, v', h1, h2, _⟩
  · exact absurd rfl (h1 _ hm)
  · have := nodup_vals hnd hm h2
    subst this
    simp [Instr.lookup, run_underlying ht, MapKept.run_getObj_map hb, K.check w _ hk, h1, Result.andThen]
theorem MAt.pushed {es : Array MapEntry} {clock : Nat} (hs : Stamped es clock) (he : es.toList.map (fun e => (e.key, e.val)) = kvs) (hks : ∀ x ∈ kvs, ∃ l, keyOf P k x.1 = some l) {key val : Value} {l : Lit} (hk : keyOf P k key = some l) (hn : ∀ x ∈ kvs, x.1 ≠ key) {w' : World} (hb : w'.heap[b]? = some (.map (es.push ⟨key, val, clock⟩) (clock + 1))) :
    MAt P k w' b (kvs ++ [(key, val)]) := by
  refine ⟨_, _, hb, ⟨?_, ?_, ?_⟩, by simp [he], ?_⟩
  · intro x hx
    rw [Array.toList_push, List.mem_append] at hx
    rcases hx with hx | hx
    · have := hs.1 x hx; omega
    · rw [List.mem_singleton.1 hx]; exact Nat.lt_succ_self _
  · simp only [Array.toList_push, List.map_append, List.map_cons, List.map_nil]
    refine List.nodup_append.2 ⟨hs.2.1, by simp, fun a ha c hc e1 => ?_⟩
    simp only [List.mem_singleton] at hc
    obtain ⟨x, hx, rfl⟩ := List.mem_map.1 ha
    have := hs.1 x hx
    omega
  · simp only [Array.toList_push, List.map_append, List.map_cons, List.map_nil]
    refine List.nodup_append.2 ⟨hs.2.2, by simp, fun a ha c hc e1 => ?_⟩
    simp only [List.mem_singleton] at hc
    obtain ⟨x, hx, rfl⟩ := List.mem_map.1 ha
    exact hn (x.key, x.val) (by rw [← he]; exact List.mem_map.2 ⟨x, hx, rfl⟩) (by rw [← hc, ← e1])
  · intro x hx
    rcases List.mem_append.1 hx with h3 | h3
    · exact hks x h3
    · rw [List.mem_singleton.1 h3]; exact ⟨l, hk⟩
/-- 'm[k] = v' at a new key -/
theorem MAt.store_new (K : Go.Maps.Keyed P k) (ht : P.underlying t = some (.map k e)) (h : MAt P k w b kvs) {key : Value} (val : Value) {l : Lit} (hk : keyOf P k key = some l) (hn : ∀ x ∈ kvs, x.1 ≠ key) :
    ∃ w', (Instr.mapUpdate t (.map (some b)) key val).run P w = .ok () w' ∧ OnlyAt b w w' ∧ MAt P k w' b (kvs ++ [(key, val)]) := by
  have hlt := h.lt
  obtain ⟨es, clock, hb, hs, he, hks⟩ := h
  rcases MAt.find (w := w) K hs he hks hk with ⟨h1, _⟩ | ⟨j, v, _, h2, _⟩
  case inr => exact absurd rfl (hn _ h2)
  refine ⟨setBlock w b (.map (es.push ⟨key, val, clock⟩) (clock + 1)), ?_, onlyAt_set _ _ _, MAt.pushed hs he hks hk hn (by simp [setBlock, hlt])⟩
  simp [Instr.mapUpdate, run_underlying ht, MapKept.run_getObj_map hb, K.check w false hk, h1, MapKept.run_setObj_map _ hb, Result.andThen, setBlock]
end

/-- the entries, that at key set to v -/
def putAt (kvs : List (Value × Value)) (j : Nat) (v : Value) : List (Value × Value) := kvs.modify j fun x => (x.1, v)
section
variable {P : Program} {k t e : TypeId} {w : World} {b : Nat} {kvs : List (Value × Value)}
theorem MAt.changed {es : Array MapEntry} {clock : Nat} (hs : Stamped es clock) (he : es.toList.map (fun e => (e.key, e.val)) = kvs) (hks : ∀ x ∈ kvs, ∃ l, keyOf P k x.1 = some l) (j : Nat) (f : MapEntry → MapEntry) (val : Value) (hf : ∀ e0, es[j]? = some e0 → (f e0).key = e0.key ∧ (f e0).val = val ∧ (f e0).born = e0.born) {w' : World} (hb : w'.heap[b]? = some (.map (es.modify j f) clock)) :
    MAt P k w' b (putAt kvs j val) := by
  have hl : ∀ i, (es.modify j f).toList[i]? = (es.toList[i]?).map fun x => if j = i then f x else x := by
    intro i
    rw [Array.toList_modify, List.getElem?_modify]
    cases es.toList[i]? with
    | none => rfl
    | some x => by_cases h : j = i <;> simp [h]
  have hsame : ∀ {β : Type} (g : MapEntry → β), (∀ e0, es[j]? = some e0 → g (f e0) = g e0) → (es.modify j f).toList.map g = es.toList.map g := by
    intro β g hg
    apply List.ext_getElem?
    intro i
    rw [List.getElem?_map, List.getElem?_map, hl]
    cases h : es.toList[i]? with
    | none => rfl
    | some x =>
      by_cases hji : j = i
      · subst hji; simp [hg x (by rw [← Array.getElem?_toList]; exact h)]
      · simp [hji]
  have hborn := hsame (·.born) fun e0 h => (hf e0 h).2.2
  have hkey := hsame (·.key) fun e0 h => (hf e0 h).1
  have hkv : (es.modify j f).toList.map (fun e => (e.key, e.val)) = putAt kvs j val := by
    apply List.ext_getElem?
    intro i
    unfold putAt
    rw [List.getElem?_map, hl, List.getElem?_modify, ← he, List.getElem?_map]
    cases h : es.toList[i]? with
    | none => simp
    | some x =>
      by_cases hji : j = i
      · subst hji
        obtain ⟨h1, h2, _⟩ := hf x (by rw [← Array.getElem?_toList]; exact h)
        simp [h1, h2]
      · simp [hji]
  refine ⟨_, _, hb, ⟨fun x hx => ?_, ?_, ?_⟩, hkv, fun x hx => ?_⟩
  · have : x.born ∈ (es.modify j f).toList.map (·.born) := List.mem_map.2 ⟨x, hx, rfl⟩
    rw [hborn] at this
    obtain ⟨y, hy, h1⟩ := List.mem_map.1 this
    rw [← h1]; exact hs.1 y hy
  · rw [hborn]; exact hs.2.1
  · rw [hkey]; exact hs.2.2
  · have hx1 : x.1 ∈ (putAt kvs j val).map (·.1) := List.mem_map.2 ⟨x, hx, rfl⟩
    rw [← hkv, List.map_map] at hx1
    have hx2 : x.1 ∈ (es.modify j f).toList.map (·.key) := hx1
    rw [hkey] at hx2
    obtain ⟨y, hy, h1⟩ := List.mem_map.1 hx2
    rw [← h1]
    exact hks (y.key, y.val) (by rw [← he]; exact List.mem_map.2 ⟨y, hy, rfl⟩)
/-- 'm[k] = v' at a key that is there -/
theorem MAt.store_old (K : Go.Maps.Keyed P k) (ht : P.underlying t = some (.map k e)) (h : MAt P k w b kvs) {key v : Value} (val : Value) {l : Lit} (hk : keyOf P k key = some l) (hm : (key, v) ∈ kvs) :
    ∃ w' j, (Instr.mapUpdate t (.map (some b)) key val).run P w = .ok () w' ∧ OnlyAt b w w' ∧ kvs[j]? = some (key, v) ∧ MAt P k w' b (putAt kvs j val) := by
  have hlt := h.lt
  have hnd := h.nodup
  obtain ⟨es, clock, hb, hs, he, hks⟩ := h
  rcases MAt.find (w := w) K hs he hks hk with ⟨_, h1⟩ | ⟨j, v', h1, h2, e0, h3, h4, h5⟩
  · exact absurd rfl (h1 _ hm)
  have := nodup_vals hnd hm h2
  subst this
  refine ⟨setBlock w b (.map (es.modify j fun e => { e with key := key, val := val }) clock), j, ?_, onlyAt_set _ _ _, ?_, MAt.changed hs he hks j (fun e => { e with key := key, val := val }) val (fun e1 h6 => ⟨by rw [h3] at h6; cases h6; exact h4.symm, rfl, rfl⟩) (by simp [setBlock, hlt])⟩
  · have hst := K.stays w hk
    simp [Instr.mapUpdate, run_underlying ht, MapKept.run_getObj_map hb, K.check w false hk, h1, h3, h4, hst, MapKept.run_setObj_map _ hb, Result.andThen, setBlock]
  · rw [← he, List.getElem?_map, Array.getElem?_toList, h3]
    simp [h4, h5]
end

attribute [irreducible] MAt
end Go.Tok

namespace Go.Tok
open Go.RowKit

theorem OwnI.mk_ {e base : Nat} {w : World} {v : Value} {xs : List Int} (h : w.ownsRow base e 1 v xs.length (xs.map (Value.int .i64))) (h2 : ∀ x ∈ xs, I64 x) : OwnI e base w v xs := by
  unfold OwnI
  exact ⟨h, h2⟩

end Go.Tok

namespace Go.Tok
set_option linter.unusedVariables false

structure ArcD where
  src : Int
  tran : Int
  dst : Int
deriving DecidableEq
instance : Inhabited ArcD := ⟨⟨0, 0, 0⟩⟩
end Go.Tok

namespace Go.Tok
set_option linter.unusedVariables false
set_option linter.unusedSimpArgs false

theorem nodup_sub {α : Type} [DecidableEq α] : ∀ (l C : List α), l.Nodup → (∀ x ∈ l, x ∈ C) → l.length ≤ C.length
  | [], C, _, _ => by simp
  | x :: l, C, hn, hs => by
    obtain ⟨h1, h2⟩ := List.nodup_cons.1 hn
    have hx : x ∈ C := hs x (by simp)
    have := nodup_sub l (C.erase x) h2 (fun y hy => (List.mem_erase_of_ne (fun e => h1 (by rw [← e]; exact hy))).2 (hs y (by simp [hy])))
    rw [List.length_erase_of_mem hx] at this
    have : 0 < C.length := List.length_pos_of_mem hx
    simp only [List.length_cons]; omega

end Go.Tok

namespace Go.Tok
open Go.RowKit Go.ChangeShapes Go.WideShapes Go.ChangeAt

section
variable {H : Type} {enc : TypeId × Value → H} {P : Program}

theorem trodAll_gr (hl : laidOutB P = true) {W W' : World} (hb : Below W.heap.size W W') : ∀ {ts : List TypeId} {vs : List Value} {ds : List (DataW H)} {ps : List MemPlace},
    (∀ t ∈ ts, P.readableRec t = true ∧ t < P.types.size) → DataW.TrodAll enc P W 0 (fun _ => true) true ts vs ds ps → (∀ x ∈ ps, x.block < W.heap.size) →
    DataW.TrodAll enc P W' 0 (fun b => decide (b < W.heap.size)) true ts vs ds ps
  | [], _, _, _, _, h, _ => by
    obtain ⟨rfl, rfl, rfl⟩ := trodAll_nil h
    exact trodAll_mk0
  | t :: ts, _, _, _, hr, h, hlt => by
    obtain ⟨v, vs, d, ds, p, q, rfl, rfl, rfl, h1, h2⟩ := trodAll_cons h
    obtain ⟨hr1, hr2⟩ := hr t (by simp)
    exact ⟨p, q, Below.trod hl hr1 hr2 h1 hb fun x hx => hlt x (List.mem_append_left _ hx), trodAll_gr hl hb (fun t ht => hr t (List.mem_cons_of_mem _ ht)) h2 fun x hx => hlt x (List.mem_append_right _ hx), rfl⟩

/-- THE LAST STEP OF EVERY LAW: it returned true, and nothing that lay there has turned. -/
theorem law_post (hl : laidOutB P = true) {f : Func} {s : ChangeSpec} {W W' : World} {args : Array Value} {ds gs : List (DataW H)} {before : List MemPlace}
    (hp : ∀ t ∈ f.params.toList, P.readableRec t = true ∧ t < P.types.size) {tb : TypeId} (htb : P.underlying tb = some .bool) (hres : f.resultTypes = #[tb]) (hvars : s.vars = [])
    (hs : s.fn H ds = { results := [.lit (.bool true)], args := ds })
    (hW : DataW.Whole enc P f.params.toList s.vars false W args.toList ds gs before) (hg : Gr W W') :
    s.post enc P f false true false false W args (.bool true) W' := by
  have hlt : ∀ p ∈ before, p.block < W.heap.size := fun p hp => hW.lt p hp
  have hW' := hW
  obtain ⟨p, q, hA, hV, rfl, _, _⟩ := hW'
  rw [hvars] at hV
  obtain ⟨rfl, rfl⟩ := trodVars_none hV
  rw [List.append_nil] at hW hlt
  refine ⟨ds, [], p, [], p, [], hW, ?_, ?_, ?_, hg.below.frame _, fun h => by cases h⟩
  · rw [List.append_nil, hs, hres]
    exact trodAll_cons_mk (shut_bool htb _) trodAll_mk0
  · rw [List.append_nil, hs]
    exact trodAll_gr hl hg.below hp hA hlt
  · rw [List.append_nil, hs, hvars]
    rfl

theorem spot_none {a : Addr} {w : World} {v : Value} (h : w.cell? (a.add 0) = some v) : ∃ b o, a = ⟨b, o, none⟩ := by
  obtain ⟨b, o, s⟩ := a
  have hs := World.cell?_spot h
  simp [Addr.add] at hs
  subst hs
  exact ⟨b, o, rfl⟩

/-- what the reading of a '[]int' says of its length -/
def LenOf (d : DataW H) (n : Nat) : Prop := (d = .nil ∧ n = 0) ∨ ∃ es sp, d = .slice es sp ∧ es.length = n

theorem ints_trod {W : World} {t e : TypeId} {v : Value} {fuel : Nat} {x : DataW H × List MemPlace} (ht : P.underlying t = some (.slice e)) (he : P.underlying e = some (.int .i64)) (hc : P.cellsOf e = 1)
    (hf : DataW.trod enc P W 0 (fun _ => true) true fuel t [v] = some x) : ∃ xs, Ints W v xs ∧ LenOf x.1 xs.length := by
  rcases open_ints ht he hc hf with ⟨hcs, hx⟩ | ⟨a', len', cap', zs, hcs, _, hl, hm, hz, hx, hcell, hwz⟩
  · cases hcs
    exact ⟨[], Ints.nil W, .inl ⟨by rw [hx], rfl⟩⟩
  · cases hcs
    simp at hz
    have hlen : (zs.take len').length = len' := by rw [List.length_take]; omega
    refine ⟨zs.take len', ?_, .inr ⟨_, _, by rw [hx], by simp [lits]⟩⟩
    refine Ints.intro (a := some a') (cap := cap') (by rw [hlen]) (by rw [hlen]; exact hl) hm (fun x hx => bounds_i64 (hwz x (List.mem_of_mem_take hx))) (fun h => by cases h) fun i hi => ?_
    rw [hlen] at hi
    obtain ⟨b, o, rfl⟩ := spot_none (hcell 0 (by omega))
    refine ⟨b, o, rfl, ?_⟩
    rw [nth_take hi, ← hcell i (by omega), add_plain]

/-- the form's own reach bounds a length -/
theorem LenOf.reach {d : DataW H} {n : Nat} {t e : TypeId} (h : LenOf d n) (ht : P.underlying t = some (.slice e)) (hby : P.bytesOf e = 8) (hw : ∀ k ∈ d.weights P t, k ≤ reachBytes) : n ≤ 17592186043904 := by
  rcases h with ⟨rfl, rfl⟩ | ⟨es, sp, rfl, rfl⟩
  · omega
  · have := hw ((es.length + sp.length) * P.bytesOf e) (by simp [DataW.weights, ht])
    rw [hby] at this
    have h2 : reachBytes = 140737488351232 := by decide
    omega
end
end Go.Tok

namespace Go.Tok
open Go.RowKit Go.ChangeShapes Go.WideShapes Go.ChangeAt

theorem choose_list {α : Type} [Inhabited α] {p : Nat → α → Prop} : ∀ n, (∀ i, i < n → ∃ x, p i x) → ∃ l : List α, l.length = n ∧ ∀ i, i < n → p i (l.getD i default)
  | 0, _ => ⟨[], rfl, fun i hi => by omega⟩
  | n + 1, h => by
    obtain ⟨l, hl, hp⟩ := choose_list n fun i hi => h i (by omega)
    obtain ⟨x, hx⟩ := h n (by omega)
    refine ⟨l ++ [x], by simp [hl], fun i hi => ?_⟩
    by_cases h1 : i < n
    · have : (l ++ [x]).getD i default = l.getD i default := by
        simp only [List.getD_eq_getElem?_getD]
        rw [List.getElem?_append_left (by omega)]
      rw [this]; exact hp i h1
    · have h2 : i = n := by omega
      subst h2
      have : (l ++ [x]).getD i default = x := by
        simp only [List.getD_eq_getElem?_getD]
        rw [List.getElem?_append_right (by omega), hl]; simp
      rw [this]; exact hx

end Go.Tok

namespace Go.Tok
open Go.RowKit Go.ChangeShapes Go.WideShapes Go.ChangeAt
set_option linter.unusedVariables false

section
variable {H : Type} {enc : TypeId × Value → H} {P : Program}

/-- what the reading of a row says of its elements -/
def RowOf {α : Type} [Inhabited α] (D : DataW H → α → Prop) (d : DataW H) (ys : List α) : Prop :=
  (d = .nil ∧ ys = []) ∨ ∃ es sp, d = .slice es sp ∧ es.length = ys.length ∧ ∀ i, i < ys.length → ∃ e, es[i]? = some e ∧ D e (ix ys i)
theorem RowOf.lenOf {α : Type} [Inhabited α] {D : DataW H → α → Prop} {d : DataW H} {ys : List α} (h : RowOf D d ys) : LenOf d ys.length := by
  rcases h with ⟨h1, rfl⟩ | ⟨es, sp, h1, h2, _⟩
  · exact .inl ⟨h1, rfl⟩
  · exact .inr ⟨es, sp, h1, h2⟩

theorem rd_trod {α : Type} [Inhabited α] {K : Kind α} {D : DataW H → α → Prop} {ts tt : TypeId} (hs : P.underlying ts = some (.slice tt)) (hc : P.cellsOf tt = K.size) (hp : 0 < K.size) {W : World} {fuel : Nat} {v : Value} {x : DataW H × List MemPlace}
    (helem : ∀ n cs y, n < fuel → DataW.trod enc P W 0 (fun _ => true) true n tt cs = some y → ∃ z, K.R W cs z ∧ D y.1 z)
    (hf : DataW.trod enc P W 0 (fun _ => true) true fuel ts [v] = some x) : ∃ ys, Rd K W v ys ∧ RowOf D x.1 ys := by
  rcases DataW.trod_slice hs hf with ⟨hcs, hx⟩ | ⟨a, len, cap, elems, rest, n, hfn, hcs, hx, _, hl, hm, hel, hat, _, _⟩
  · cases hcs
    exact ⟨[], Rd.nil W, .inl ⟨by rw [hx], rfl⟩⟩
  · cases hcs
    have each : ∀ i, i < len → ∃ z : α, ∃ (b o : Nat) (vs : List Value) (e : DataW H), a = ⟨b, o, none⟩ ∧ K.R W vs z ∧ (∀ j u, vs[j]? = some u → W.cell? ⟨b, o + i * K.size + j, none⟩ = some u) ∧ (elems.map (·.1))[i]? = some e ∧ D e z := by
      intro i hi
      have h1 := hat i hi
      rw [hc] at h1
      have h2 : elems[i]? = some (elems[i]'(by omega)) := List.getElem?_eq_getElem (by omega)
      rw [h2] at h1
      obtain ⟨cs, hcc, ht⟩ := Option.bind_eq_some_iff.1 h1
      obtain ⟨_, hcl, hcell⟩ := World.cells?_some hcc
      obtain ⟨z, hz, hd⟩ := helem n cs _ (by omega) ht
      have first : ∃ b o, a = ⟨b, o, none⟩ := by
        have h1 := hat 0 (by omega)
        rw [hc] at h1
        have h2 : elems[0]? = some (elems[0]'(by omega)) := List.getElem?_eq_getElem (by omega)
        rw [h2] at h1
        obtain ⟨cs, hc', ht⟩ := Option.bind_eq_some_iff.1 h1
        obtain ⟨_, hcl, hcell⟩ := World.cells?_some hc'
        have h3 := hcell 0 hp
        rw [List.getElem?_eq_getElem (by omega)] at h3
        simp only [Nat.zero_mul] at h3
        have h4 : (a.add 0).add 0 = a.add 0 := by simp [Addr.add]
        rw [h4] at h3
        exact spot_none h3
      obtain ⟨b, o, rfl⟩ := first
      refine ⟨z, b, o, cs, _, rfl, hz, fun j u hj => ?_, by rw [List.getElem?_map, h2, Option.map_some], hd⟩
      have hj' : j < K.size := by rw [← hcl]; exact (List.getElem?_eq_some_iff.1 hj).1
      have h3 := hcell j hj'
      rw [add_none, add_none] at h3
      rw [h3]; exact hj
    obtain ⟨l, hll, hp'⟩ := choose_list len each
    refine ⟨l, ?_, .inr ⟨elems.map (·.1), _, by rw [hx], by simp [hel, hll], fun i hi => ?_⟩⟩
    · refine rd_mk (a := some a) (cap := cap) (by rw [hll]) (by omega) hm (fun h => by cases h) fun i hi => ?_
      obtain ⟨b, o, vs, e, rfl, h1, h2, _⟩ := hp' i (by omega)
      exact ⟨b, o, vs, rfl, by rw [ix_def]; exact h1, h2⟩
    · obtain ⟨b, o, vs, e, rfl, h1, h2, h3, h4⟩ := hp' i (by omega)
      exact ⟨e, h3, by rw [ix_def]; exact h4⟩

theorem row_trod {tt el : TypeId} (ht : P.underlying tt = some (.slice el)) (he : P.underlying el = some (.int .i64)) (hc : P.cellsOf el = 1) {W : World} {n : Nat} {cs : List Value} {y : DataW H × List MemPlace} (h : DataW.trod enc P W 0 (fun _ => true) true n tt cs = some y) : ∃ z, rowK.R W cs z ∧ LenOf y.1 z.length := by
  have hv : ∃ v, cs = [v] := by
    rcases DataW.trod_slice ht h with ⟨hcs, _⟩ | ⟨a, len, cap, elems, rest, m, _, hcs, _⟩
    · exact ⟨_, hcs⟩
    · exact ⟨_, hcs⟩
  obtain ⟨v, rfl⟩ := hv
  obtain ⟨xs, h1, h2⟩ := ints_trod ht he hc h
  exact ⟨xs, ⟨v, rfl, h1⟩, h2⟩
theorem rd_open {α : Type} [Inhabited α] {K : Kind α} {D : DataW H → α → Prop} {ts tt : TypeId} (hs : P.underlying ts = some (.slice tt)) (hc : P.cellsOf tt = K.size) (hp : 0 < K.size) {W : World} {base : Nat} {v : Value} {d : DataW H} {ps : List MemPlace}
    (helem : ∀ n cs y, DataW.trod enc P W 0 (fun _ => true) true n tt cs = some y → ∃ z, K.R W cs z ∧ D y.1 z)
    (hval : Value.okWide P W .any base ts v) (hd : DataW.Trod enc P W 0 (fun _ => true) true ts v d ps) : ∃ ys, Rd K W v ys ∧ RowOf D d ys := by
  obtain ⟨a, len, cap, rfl⟩ := okWide_slice hs hval
  obtain ⟨fuel, hf⟩ := hd
  exact rd_trod hs hc hp (fun n cs y _ h => helem n cs y h) hf
/-- the form's own reach bounds a length -/
theorem LenOf.reachB {d : DataW H} {n k : Nat} {t e : TypeId} (h : LenOf d n) (ht : P.underlying t = some (.slice e)) (hby : P.bytesOf e = k) (hw : ∀ m ∈ d.weights P t, m ≤ reachBytes) : n * k ≤ 140737488351232 := by
  rcases h with ⟨rfl, rfl⟩ | ⟨es, sp, rfl, rfl⟩
  · omega
  · have := hw ((es.length + sp.length) * P.bytesOf e) (by simp [DataW.weights, ht])
    rw [hby, Nat.add_mul] at this
    have h2 : reachBytes = 140737488351232 := by decide
    omega
end
end Go.Tok

namespace Go.Proofs.YtagdccgbcmnehaaGreat
open Go.RowKit Go.Tok Go.ChangeShapes Go.WideShapes Go.ChangeAt
set_option linter.unusedVariables false

set_option maxRecDepth 100000 in
theorem own : ownKnob Tryz.prog.godebug = none := by kernel_rfl
set_option maxRecDepth 100000 in
theorem laidOut : laidOutB Tryz.prog = true := by kernel_rfl

section
variable {H : Type} {enc : TypeId × Value → H}
theorem weightsEach_nil (ts : List TypeId) (ds : List (DataW H)) : DataW.weightsEach Tryz.prog (ts ++ []) (ds ++ []) = DataW.weightsEach Tryz.prog ts ds := by rw [List.append_nil, List.append_nil]

end
end Go.Proofs.YtagdccgbcmnehaaGreat

