/- Worlds in which blocks outside S, from base on, may have been written. No program is in sight here. -/
import Derived.Test.YtidpppfimkhgkaaPA
namespace Go.Tok
open Go.RowKit
set_option linter.unusedVariables false

/-- the blocks of S stand as they stood; what was written lies from base on -/
def Wr (S : Nat → Prop) (base : Nat) (w w' : World) : Prop := Kp S w w' ∧ ∀ a : World, a.heap.size ≤ base → Gr a w → Gr a w'
theorem Wr.refl (S : Nat → Prop) (base : Nat) (w : World) : Wr S base w w := ⟨Kp.refl _ _, fun _ _ h => h⟩
theorem Wr.trans {S : Nat → Prop} {base : Nat} {a b c : World} (h : Wr S base a b) (k : Wr S base b c) : Wr S base a c := ⟨h.1.trans k.1, fun a ha hg => k.2 a ha (h.2 a ha hg)⟩
theorem Gr.wr {S : Nat → Prop} {base : Nat} {w w' : World} (g : Gr w w') : Wr S base w w' := ⟨g.kp, fun a _ h => h.trans g⟩
theorem Wr.set {S : Nat → Prop} {base : Nat} {w w' : World} (h : Wr S base w w') {a : Addr} (hS : ¬ S a.block) (hb : base ≤ a.block) (u : Value) : Wr S base w (w'.setCell a u) :=
  ⟨h.1.trans (set_kp hS u), fun x hx hg => (h.2 x hx hg).setCell (Nat.le_trans hx hb) u⟩
theorem Wr.grown {S : Nat → Prop} {base : Nat} {w w' w'' : World} {row : Option Nat} (h : Wr S base w w') (hg : w'.grownBy w'' row) (hS : ∀ b, S b → some b ≠ row) (hb : ∀ k, row = some k → base ≤ k) : Wr S base w w'' :=
  ⟨h.1.trans (grown_kp hg hS), fun x hx h' => (h.2 x hx h').grown hg fun k hk => Nat.le_trans hx (hb k hk)⟩
theorem Wr.mono {S S' : Nat → Prop} {base base' : Nat} {w w' : World} (h : Wr S base w w') (hs : ∀ b, b < w.heap.size → S' b → S b) (hb : base' ≤ base) : Wr S' base' w w' := ⟨h.1.mono hs, fun a ha hg => h.2 a (Nat.le_trans ha hb) hg⟩
theorem Wr.gr {S : Nat → Prop} {base : Nat} {a w w' : World} (h : Wr S base w w') (hb : a.heap.size ≤ base) (g : Gr a w) : Gr a w' := h.2 a hb g
theorem Wr.le {S : Nat → Prop} {base : Nat} {w w' : World} (h : Wr S base w w') : w.heap.size ≤ w'.heap.size := by have := h.1; unfold Kp at this; exact this.1
/-- what hung on the blocks of S holds yet -/
theorem Wr.on {S : Nat → Prop} {base : Nat} {p : World → Prop} {w w' : World} (h : Wr S base w w') (k : On S p w) : On S p w' := k.kp h.1
theorem Ints.on_gr {S : Nat → Prop} {w : World} {v : Value} {xs : List Int} {w0 : World} (h : Ints w0 v xs) (g : Gr w0 w) (hs : ∀ b, b < w0.heap.size → S b) : On S (fun w => Ints w v xs) w :=
  (on_old (fun _ _ k h => h.kp k) h g.kp).mono fun b _ hb => hs b hb

end Go.Tok
