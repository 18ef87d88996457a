/- Rows of bools. -/
import Derived.Test.YtjpapgbdhflgnaaPA
import Derived.Test.YtjpapgbdhflgnaaProg
namespace Go.Tok
open Go.RowKit
set_option linter.unusedVariables false
def boolK : Kind Bool := flat 1 (fun b => [.bool b]) (fun _ => True) (fun _ => rfl) (fun b u hu => by
  simp only [List.mem_cons, List.not_mem_nil, or_false] at hu
  subst hu; rfl)
theorem Rd.bool {w : World} {a : Option Addr} {n cap : Nat} {xs : List Bool} (h : Rd boolK w (.slice a n cap) xs) {i : Nat} (hi : i < xs.length) :
    ∃ b o, a = some ⟨b, o, none⟩ ∧ w.cell? ⟨b, o + i, none⟩ = some (.bool (ix xs i)) := by
  obtain ⟨b, o, vs, ha, ⟨rfl, _⟩, hc⟩ := h.at_ hi
  refine ⟨b, o, ha, ?_⟩
  have := hc 0 _ rfl
  rwa [show o + i * boolK.size + 0 = o + i by show o + i * 1 + 0 = _; omega] at this
/-- a row of bools of the call's own -/
def OwnB (e base : Nat) (w : World) (v : Value) (xs : List Bool) : Prop := OwnR boolK e base (fun _ => False) w v xs
theorem OwnB.rd {e base : Nat} {w : World} {v : Value} {xs : List Bool} (h : OwnB e base w v xs) : Rd boolK w v xs := OwnR.rd h
theorem OwnB.gr {e base : Nat} {w w' : World} {v : Value} {xs : List Bool} (h : OwnB e base w v xs) (g : Gr w w') : OwnB e base w' v xs := OwnR.gr h g
theorem OwnB.low {e base base' : Nat} {w : World} {v : Value} {xs : List Bool} (h : OwnB e base w v xs) (hb : base' ≤ base) : OwnB e base' w v xs := OwnR.low h hb
theorem OwnB.at_ {e base : Nat} {w : World} {g n cap : Nat} {xs : List Bool} (h : OwnB e base w (.slice (some ⟨g, 0, none⟩) n cap) xs) {i : Nat} (hi : i < xs.length) : w.cell? ⟨g, i, none⟩ = some (.bool (ix xs i)) := by
  obtain ⟨b, o, hb, hc⟩ := h.rd.bool hi
  cases hb
  rwa [Nat.zero_add] at hc
theorem OwnB.set {e base : Nat} {w : World} {g n cap : Nat} {xs : List Bool} (h : OwnB e base w (.slice (some ⟨g, 0, none⟩) n cap) xs) (i : Nat) (b : Bool) : OwnB e base (w.setCell ⟨g, i, none⟩ (.bool b)) (.slice (some ⟨g, 0, none⟩) n cap) (xs.set i b) :=
  OwnR.set1 rfl h i (On.true (p := [Value.bool b] = [.bool b] ∧ True) ⟨rfl, trivial⟩)
theorem OwnB.other {e base : Nat} {w : World} {v : Value} {xs : List Bool} (h : OwnB e base w v xs) {a : Addr} (ha : v.ownBlock ≠ some a.block) (u : Value) : OwnB e base (w.setCell a u) v xs := OwnR.other h ha (fun e => e) u
theorem OwnB.grown {e base : Nat} {w w' : World} {v : Value} {xs : List Bool} {row : Option Nat} (h : OwnB e base w v xs) (hg : w.grownBy w' row) (hne : v.ownBlock = none ∨ v.ownBlock ≠ row) : OwnB e base w' v xs := OwnR.kept h hg hne (fun _ _ hb => hb.elim)
theorem OwnB.made {e base : Nat} {w : World} {g n : Nat} (h : w.ownsRow base e 1 (.slice (some ⟨g, 0, none⟩) n n) n (List.replicate n (.bool false))) : OwnB e base w (.slice (some ⟨g, 0, none⟩) n n) (List.replicate n false) := by
  unfold OwnB OwnR
  refine ⟨List.replicate n (false, [.bool false]), by simp, ?_, fun r hr => ?_⟩
  · have : cellsOf (List.replicate n (false, [Value.bool false])) = List.replicate n (.bool false) := by
      unfold cellsOf
      clear h
      induction n with
      | zero => rfl
      | succ n ih => rw [List.replicate_succ, List.flatMap_cons, ih, List.replicate_succ]; rfl
    rw [this, List.length_replicate]; exact h
  · rw [(List.mem_replicate.1 hr).2]
    exact On.true (p := [Value.bool false] = [.bool false] ∧ True) ⟨rfl, trivial⟩
/-- 'xs[:len(xs)-1]' of a row of the call's own -/
theorem OwnI.pop {e base : Nat} {w : World} {g n cap : Nat} {xs : List Int} {x : Int} (h : OwnI e base w (.slice (some ⟨g, 0, none⟩) n cap) (xs ++ [x])) : OwnI e base w (.slice (some ⟨g, 0, none⟩) xs.length cap) xs := by
  unfold OwnI at *
  obtain ⟨⟨h1, h2⟩, h3⟩ := h
  refine ⟨⟨by simp, ?_⟩, fun y hy => h3 y (List.mem_append_left _ hy)⟩
  rcases h2 with ⟨h4, _⟩ | ⟨g', cap', cur, h4, h5, h6, h7, h8, h9, h10⟩
  · cases h4
  · simp only [Value.slice.injEq, Option.some.injEq, Addr.mk.injEq] at h4
    obtain ⟨⟨rfl, _⟩, rfl, rfl⟩ := h4
    rw [List.length_append, List.length_singleton] at h7 h10
    refine .inr ⟨g, cap, cur, rfl, h5, h6, by omega, h8, h9, ?_⟩
    have h11 : (cur.toList.take ((xs.length + 1) * 1)).take (xs.length * 1) = ((xs ++ [x]).map (Value.int .i64)).take (xs.length * 1) := by rw [h10]
    rw [List.take_take, Nat.min_eq_left (by omega)] at h11
    rw [h11]; simp
end Go.Tok
namespace Go.Proofs.Ytjpapgbdhflgnaa
open Go.RowKit Go.Tok
theorem boolInfo : (Try.prog.info? 4).map (fun i => (i.zero, i.size, i.bytes)) = some (some (.bool false), 1, 1) := by kernel_rfl
end Go.Proofs.Ytjpapgbdhflgnaa
