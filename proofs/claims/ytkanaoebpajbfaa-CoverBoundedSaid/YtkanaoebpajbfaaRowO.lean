/- A row of ints in one block of the call's own, cell by cell; knots whose marks are such rows, each in a block of its own. No program is in sight here. -/
import Derived.Test.YtkanaoebpajbfaaGrowL
import Derived.Test.YtkanaoebpajbfaaPA
import Derived.Test.YtkanaoebpajbfaaKnot
namespace Go.Tok
open Go.RowKit
set_option linter.unusedVariables false
def RowO (e cap : Nat) (w : World) (g : Nat) (xs : List Int) : Prop := RowAt w g xs ∧ ∃ cs, Blk w g e cs ∧ cs.size = cap
theorem RowO.kp {e cap : Nat} {S : Nat → Prop} {w w' : World} {g : Nat} {xs : List Int} (h : RowO e cap w g xs) (k : Kp S w w') (hs : S g) (hg : g < w.heap.size) : RowO e cap w' g xs := by
  obtain ⟨h1, cs, h2, h3⟩ := h
  refine ⟨h1.kp k hs hg, cs, ?_, h3⟩
  unfold Blk at h2 ⊢
  exact (k.block hg hs).trans h2
theorem RowO.set {e cap : Nat} {w : World} {g k : Nat} {xs : List Int} (h : RowO e cap w g xs) (hk : k < xs.length) (x : Int) : RowO e cap (w.setCell ⟨g, k, none⟩ (.int .i64 x)) g (xs.set k x) := by
  obtain ⟨h1, cs, h2, h3⟩ := h
  exact ⟨h1.set hk x, _, h2.set k _, by rw [Array.size_setIfInBounds]; exact h3⟩
theorem OwnI.rowO {e base : Nat} {w : World} {g n cap : Nat} {xs : List Int} (h : OwnI e base w (.slice (some ⟨g, 0, none⟩) n cap) xs) : RowO e cap w g xs := by
  refine ⟨h.rowAt, ?_⟩
  unfold OwnI at h
  rcases h.1.2 with ⟨h1, _⟩ | ⟨g', cap', cur, h1, _, h3, _, _, h6, _⟩
  · cases h1
  · cases h1
    exact ⟨cur, by unfold Blk; exact h3, by omega⟩
theorem RowO.own {e cap base : Nat} {w : World} {g : Nat} {xs : List Int} (h : RowO e cap w g xs) (hb : base ≤ g) (hc : xs.length ≤ cap) (hm : cap ≤ maxLen) (hI : ∀ x ∈ xs, I64 x) : OwnI e base w (.slice (some ⟨g, 0, none⟩) xs.length cap) xs := by
  obtain ⟨h1, cs, h2, h3⟩ := h
  unfold Blk at h2
  unfold OwnI
  refine ⟨⟨by simp, .inr ⟨g, cap, cs, rfl, hb, h2, hc, hm, by omega, ?_⟩⟩, hI⟩
  rw [Nat.mul_one]
  apply List.ext_getElem?
  intro p
  by_cases hp : p < xs.length
  · have := h1.1 p hp
    rw [cell_of_row w g p cs e (0, 0) h2, nth_lt hp] at this
    rw [List.getElem?_take_of_lt hp, List.getElem?_map, List.getElem?_eq_getElem hp, Array.getElem?_toList, this]
    rfl
  · rw [List.getElem?_eq_none (by simp; omega), List.getElem?_eq_none (by simp; omega)]
theorem OwnI.on_block {e base : Nat} {w : World} {v : Value} {xs : List Int} (h : OwnI e base w v xs) : On (fun b => v.ownBlock = some b) (fun w => OwnI e base w v xs) w := by
  unfold On
  intro w' k
  unfold OwnI at h ⊢
  obtain ⟨⟨h1, h2⟩, h3⟩ := h
  refine ⟨⟨h1, ?_⟩, h3⟩
  rcases h2 with h | ⟨g, cap, cur, rfl, h4, h5, h6⟩
  · exact .inl h
  · exact .inr ⟨g, cap, cur, rfl, h4, (k.block (Array.getElem?_eq_some_iff.1 h5).1 rfl).trans h5, h6⟩
/-- a knot, and the row of its mark -/
def knO (e base : Nat) : Kind (KnotD × Value) :=
  ⟨3, fun w vs x => vs = [.int .i64 x.1.up, .int .i64 x.1.tran, x.2] ∧ OwnI e base w x.2 x.1.mark,
    fun h => by rw [h.1]; rfl,
    fun h => by
      obtain ⟨h1, h2⟩ := h
      rw [h1]
      intro x hx
      rcases List.mem_cons.1 hx with rfl | hx
      · rfl
      · rcases List.mem_cons.1 hx with rfl | hx
        · rfl
        · rw [List.mem_singleton.1 hx]
          rcases h2.form with ⟨h, _⟩ | ⟨g, cap, h, _⟩ <;> rw [h] <;> rfl,
    fun k h => ⟨h.1, (h.2.on_block.kp (k.mono fun _ _ _ => trivial)).now⟩⟩
theorem rd_fst {e base : Nat} {w : World} {v : Value} {xs : List (KnotD × Value)} (h : Rd (knO e base) w v xs) : Rd knK w v (xs.map (·.1)) := by
  unfold Rd at h ⊢
  obtain ⟨a, cap, h1, h2, h3, h4, h5⟩ := h
  refine ⟨a, cap, by rw [List.length_map]; exact h1, by rw [List.length_map]; exact h2, h3, h4, fun i hi => ?_⟩
  rw [List.length_map] at hi
  obtain ⟨b, o, vs, ha, ⟨hv, hO⟩, hc⟩ := h5 i hi
  have e : ix (xs.map (·.1)) i = (ix xs i).1 := by rw [ix_lt (by simpa using hi), ix_lt hi, List.getElem_map]
  refine ⟨b, o, vs, ha, ⟨(ix xs i).2, ?_, ?_⟩, hc⟩
  · rw [e]; exact hv
  · rw [e]; exact hO.ints
/-- knots of the call's own: each mark is a row in a block of its own -/
def OwnK (eK eI base tb : Nat) (w : World) (kv : Value) (ks : List KnotD) : Prop := ∃ xs : List (KnotD × Value), ks = xs.map (·.1) ∧ OwnR (knO eI base) eK base (fun b => b ≠ tb) w kv xs ∧
  (∀ i j, i < xs.length → j < xs.length → i ≠ j → ∀ b, (ix xs i).2.ownBlock = some b → (ix xs j).2.ownBlock ≠ some b) ∧ ∀ i, i < xs.length → ∀ b, (ix xs i).2.ownBlock = some b → kv.ownBlock ≠ some b
section
variable {eK eI base tb : Nat} {w w' : World} {kv : Value} {ks : List KnotD}
theorem OwnK.gr (h : OwnK eK eI base tb w kv ks) (g : Gr w w') : OwnK eK eI base tb w' kv ks := by
  obtain ⟨xs, h1, h2, h3⟩ := h
  exact ⟨xs, h1, h2.gr g, h3⟩
theorem OwnK.rd (h : OwnK eK eI base tb w kv ks) : Rd knK w kv ks := by
  obtain ⟨xs, h1, h2, h3⟩ := h
  rw [h1]
  exact rd_fst h2.rd
theorem OwnK.len (h : OwnK eK eI base tb w kv ks) : ∃ a cap, kv = .slice a ks.length cap ∧ ks.length ≤ cap ∧ cap ≤ 9223372036854775807 := by
  obtain ⟨xs, h1, h2, h3⟩ := h
  rw [h1, List.length_map]
  exact h2.len
theorem OwnK.form (h : OwnK eK eI base tb w kv ks) : (kv = .slice none 0 0 ∧ ks = []) ∨ ∃ g cap, kv = .slice (some ⟨g, 0, none⟩) ks.length cap ∧ base ≤ g ∧ g < w.heap.size ∧ ks.length ≤ cap ∧ cap ≤ 9223372036854775807 := by
  obtain ⟨xs, h1, h2, h3⟩ := h
  rw [h1, List.length_map]
  rcases h2.form with ⟨h4, h5⟩ | h4
  · exact .inl ⟨h4, by rw [h5]; rfl⟩
  · exact .inr h4
theorem OwnK.lt (h : OwnK eK eI base tb w kv ks) {k : Nat} (hk : kv.ownBlock = some k) : base ≤ k ∧ k < w.heap.size := by
  obtain ⟨xs, h1, h2, h3⟩ := h
  exact h2.lt hk
theorem OwnK.other (h : OwnK eK eI base tb w kv ks) {a : Addr} (ha : kv.ownBlock ≠ some a.block) (hS : ¬ a.block ≠ tb) (u : Value) : OwnK eK eI base tb (w.setCell a u) kv ks := by
  obtain ⟨xs, h1, h2, h3⟩ := h
  exact ⟨xs, h1, h2.other ha hS u, h3⟩
/-- the mark of an own knot lies below the world's end -/
theorem OwnK.marks (h : OwnK eK eI base tb w kv ks) : ∃ xs : List (KnotD × Value), ks = xs.map (·.1) ∧ OwnR (knO eI base) eK base (fun b => b ≠ tb) w kv xs ∧ (∀ i, i < xs.length → ∀ b, (ix xs i).2.ownBlock = some b → b < w.heap.size) ∧
    (∀ i j, i < xs.length → j < xs.length → i ≠ j → ∀ b, (ix xs i).2.ownBlock = some b → (ix xs j).2.ownBlock ≠ some b) ∧ ∀ i, i < xs.length → ∀ b, (ix xs i).2.ownBlock = some b → kv.ownBlock ≠ some b := by
  obtain ⟨xs, h1, h2, h3, h4⟩ := h
  refine ⟨xs, h1, h2, fun i hi b hb => ?_, h3, h4⟩
  have hr := h2.rd
  obtain ⟨a, cap, e, _, _⟩ := hr.len
  rw [e] at hr
  obtain ⟨_, _, vs, _, ⟨_, hO⟩, _⟩ := hr.at_ hi
  exact (hO.lt hb).2
theorem OwnK.add {xs : List (KnotD × Value)} {x : KnotD × Value} {kv' : Value} {g6 B Z Z' : Nat} (h1 : ks = xs.map (·.1)) (hbm : ∀ i, i < xs.length → ∀ b, (ix xs i).2.ownBlock = some b → b < B)
    (hdis : ∀ i j, i < xs.length → j < xs.length → i ≠ j → ∀ b, (ix xs i).2.ownBlock = some b → (ix xs j).2.ownBlock ≠ some b) (hkv : ∀ i, i < xs.length → ∀ b, (ix xs i).2.ownBlock = some b → kv.ownBlock ≠ some b)
    (hx : ∀ b, x.2.ownBlock = some b → B ≤ b ∧ b < Z) (hk' : kv'.ownBlock = some g6) (hat : kv.ownBlock = some g6 ∨ g6 = Z') (hZ : Z ≤ Z') (hBZ : B ≤ Z') (hkB : ∀ b, kv.ownBlock = some b → b < B)
    (o : OwnR (knO eI base) eK base (fun b => b ≠ tb) w' kv' (xs ++ [x])) : OwnK eK eI base tb w' kv' (ks ++ [x.1]) := by
  have hL : ∀ i, i < xs.length → ix (xs ++ [x]) i = ix xs i := fun i hi => by rw [ix_lt (by simp; omega), ix_lt hi, List.getElem_append_left hi]
  have hN : ix (xs ++ [x]) xs.length = x := by rw [ix_lt (by simp)]; simp
  refine ⟨xs ++ [x], by rw [h1]; simp, o, fun i j hi hj hne b hb => ?_, fun i hi b hb => ?_⟩
  · rw [List.length_append, List.length_singleton] at hi hj
    by_cases h2 : i < xs.length
    · rw [hL i h2] at hb
      by_cases h3 : j < xs.length
      · rw [hL j h3]; exact hdis i j h2 h3 hne b hb
      · have e : j = xs.length := by omega
        subst e
        rw [hN]
        intro h
        have := hx b h
        have := hbm i h2 b hb
        omega
    · have e : i = xs.length := by omega
      subst e
      rw [hN] at hb
      have h4 := hx b hb
      have h3 : j < xs.length := by omega
      rw [hL j h3]
      intro h
      have := hbm j h3 b h
      omega
  · rw [List.length_append, List.length_singleton] at hi
    rw [hk']
    intro h
    cases h
    by_cases h2 : i < xs.length
    · rw [hL i h2] at hb
      rcases hat with h | h
      · exact hkv i h2 _ hb h
      · have := hbm i h2 _ hb; omega
    · have e : i = xs.length := by omega
      subst e
      rw [hN] at hb
      have h4 := hx _ hb
      rcases hat with h | h
      · have := hkB _ h; omega
      · omega
end
end Go.Tok
