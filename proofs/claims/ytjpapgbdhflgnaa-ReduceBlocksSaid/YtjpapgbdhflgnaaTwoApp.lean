/- Two rows of the call's own that are appended to in one drawn region: what one append leaves of the other row, and of a literal. No program is in sight here. -/
import Derived.Test.YtjpapgbdhflgnaaPA
namespace Go.Tok
open Go.RowKit
set_option linter.unusedVariables false
/-- 'append(s, y)' in a drawn region, the operation written out: at another one it does not fit -/
theorem step_app_lit {α : Type} {K : Kind α} {P : Program} {t e : TypeId} {bytes : Nat} {z : Value} (T : KTy P t e K bytes z) {ops : Array Oper} {dst : Option Tmp} {type : TypeId} {pos : String} {after : Array Edge} {a : Act} {w : World} {KK : Act → World → Prop} {Q : Exit → Act → World → Prop} {E : Prop} (s x : Operand)
    (base : Nat) (S : Nat → Prop) (v : Value) (xs : List α) {ad : Addr} (y : α) (vs : List Value) (hs : a.eval s = v) (hx : a.eval x = .slice (some ad) 1 1)
    (hown : OwnR K e base S w v xs) (hcell : ∀ j u, vs[j]? = some u → w.cell? (ad.add j) = some u) (hy : On (fun b => S b ∧ v.ownBlock ≠ some b) (fun w => K.R w vs y) w) (hn : (xs.length + 1) * bytes ≤ 140737488355328) (hn' : xs.length + 1 ≤ maxLen) (hbase : base ≤ w.heap.size)
    (hK : ∀ g cap w', OwnR K e base S w' (.slice (some ⟨g, 0, none⟩) (xs.length + 1) cap) (xs ++ [y]) → (∀ a : World, a.heap.size ≤ base → Gr a w → Gr a w') → w.grownBy w' v.ownBlock → (v.ownBlock = some g ∨ g = w.heap.size) → g < w'.heap.size → KK (a.put dst (.slice (some ⟨g, 0, none⟩) (xs.length + 1) cap)) w') :
    if Region.wanted { dst := dst, op := .call { callee := .builtin .append, args := #[s, x], argTypes := #[t, t] }, type := type, pos := pos, after := after, guard := none } (yielded ops a.tmps) = true then Oper.wp P { dst := dst, op := .call { callee := .builtin .append, args := #[s, x], argTypes := #[t, t] }, type := type, pos := pos, after := after, guard := none } a w KK Q else E :=
  step_app_one T rfl s x rfl base S v xs ad y vs hs hx hown hcell hy hn hn' hbase hK
theorem lit_cellsH {w : World} {H : Nat} {cs : Array Value} {t : TypeId} (hH : w.heap.size = H) : ∀ (j : Nat) (u : Value), cs.toList[j]? = some u → (w.alloc (.cells cs t)).cell? ((⟨H, 0, none⟩ : Addr).add j) = some u := by
  subst hH
  intro j u hj
  rw [add_none, Nat.zero_add]
  exact box_cell (Gr.refl _) (by rw [← Array.getElem?_toList]; exact hj)
theorem lit_gr {w w' : World} {H : Nat} {cs : Array Value} {t : TypeId} (g : Gr (w.alloc (.cells cs t)) w') (hH : w.heap.size = H) : ∀ (j : Nat) (u : Value), cs.toList[j]? = some u → w'.cell? ((⟨H, 0, none⟩ : Addr).add j) = some u :=
  fun j u hj => cell_gr (lit_cellsH hH j u hj) g
theorem lit_far {X Wc wA w' : World} {H : Nat} {cs : Array Value} {t : TypeId} {row : Option Nat} (hgb : Wc.grownBy wA row) (g : Gr (X.alloc (.cells cs t)) Wc) (g' : Gr wA w') (hrow : ∀ b, row = some b → b < X.heap.size) (hH : X.heap.size = H) :
    ∀ (j : Nat) (u : Value), cs.toList[j]? = some u → w'.cell? ((⟨H, 0, none⟩ : Addr).add j) = some u := by
  intro j u hj
  have h1 := lit_gr g hH j u hj
  rw [add_none, Nat.zero_add] at h1 ⊢
  refine cell_gr ?_ g'
  have hb := cell_block h1
  have h2 := hgb.block H hb (fun e => by have := hrow _ e.symm; omega)
  unfold World.cell? at *
  rw [h2]; exact h1
theorem own_apart {u v : Value} (h : ∀ b, u.ownBlock = some b → v.ownBlock ≠ some b) : v.ownBlock = none ∨ v.ownBlock ≠ u.ownBlock := by
  cases hv : v.ownBlock with
  | none => exact .inl rfl
  | some b => exact .inr (fun e => h b e.symm hv)
theorem arm_other {β : Type} {Kb : Kind β} {e base : Nat} {W0 Wc wA : World} {hv u : Value} {hl : List β} (HW : OwnR Kb e base (fun _ => False) W0 hv hl) (g : Gr W0 Wc) (hne : ∀ b, u.ownBlock = some b → hv.ownBlock ≠ some b) (hgb : Wc.grownBy wA u.ownBlock) {g1 : Nat} (n cp : Nat) (hat : u.ownBlock = some g1 ∨ g1 = Wc.heap.size) :
    OwnR Kb e base (fun _ => False) wA hv hl ∧ ∀ b, (Value.slice (some ⟨g1, 0, none⟩) n cp).ownBlock = some b → hv.ownBlock ≠ some b := by
  have h1 := HW.gr g
  refine ⟨h1.kept hgb (own_apart hne) (fun _ _ h => h.elim), fun b hb => ?_⟩
  obtain rfl : g1 = b := by cases hb; rfl
  rcases hat with h | h
  · exact hne _ h
  · intro e
    have := (h1.lt e).2
    omega
end Go.Tok
